/- blastlaw: PinsCarryTheStates. -/
import Derived.Test.Qxb6500772aPl
import Derived.Test.Qxb6500772aLb
import Derived.Test.Qxb6500772aLd
import Derived.Test.Qxb6500772aHi
import Derived.Test.Qxb6500772aIb
import Derived.Test.Qxb6500772aSd
import Derived.Test.Qxb6500772aNa
import Derived.Test.Qxb6500772aKb
import Derived.Test.Qxb6500772aHb
import Derived.BigQuiet
namespace Go.Proofs.Qxb6500772a
open Go Go.RowKit Go.Qm
set_option linter.unusedVariables false
set_option linter.unusedSimpArgs false
attribute [local go_sem ↓] Go.wp_at_zero Go.wp_at_succ
theorem own_vsl {B : Nat} {w : World} {v : Value} {l : List Nat} (h : Own B 28 w v (l.map uv)) : ∃ a c, v = .slice a l.length c ∧ Vs w v l := by
  rcases h.form with ⟨rfl, e⟩ | ⟨g, cap, sp, rfl, hB, hg, hc, hm⟩
  · have e1 : l = [] := List.map_eq_nil_iff.1 e
    subst e1
    exact ⟨none, 0, rfl, none, 0, rfl, by simp, by simp [maxLen], fun k u hu => by simp at hu⟩
  · rw [List.length_map] at hc ⊢
    have cl : Cl w g (some ⟨g, 0, none⟩) cap sp l := ⟨fun _ => ⟨rfl, hg⟩, by omega, hm⟩
    exact ⟨_, _, rfl, cl.vs⟩
set_option maxRecDepth 4000 in
set_option maxHeartbeats 4000000 in
theorem carry_c {w : World} {v : Value} {sc : List OpR} (EX : ∀ (P : Nat → Prop) (cels : List Cel) (f : EF) (t : SL), cels.length ≤ 1000000 → (∀ c ∈ cels, 1 ≤ c.w ∧ c.w ≤ 64) → ExC P cels f t) (hs : Script w v sc) : Calls Try.prog 5 #[v] w fun e w' => e = .returned (.bool true) ∧ Keep w w' := by
  have SM := Hid.mk (small_c hs)
  have hs0 := hs
  obtain ⟨va, vc, rfl, -⟩ := hs0
  by_cases hsm : sc.length ≤ 65536
  · have PL := Hid.mk (play_c hs hsm EX)
    have hd : decide (sc.length ≤ 65536) = true := decide_eq_true hsm
    rw [hd] at SM
    have HEX := Hid.mk EX
    clear hs hd hsm EX
    go_enter Try.func5, Try.ntmps5
    go_wp2_with fail
    refine SM.out.mono ?_
    rintro e y ⟨rfl, hy⟩
    have hy2 := hy.symm
    clear hy
    subst hy2
    go_wp2_with fail
    refine PL.out.mono ?_
    rintro e w1 ⟨k1, P, cels, body, f, t, cv, bv, kv, c0, b0, n0, b1, rfl, tk, ⟨⟨ca0, cm0, cc0, rfl⟩, ⟨na0, nm0, nc0, rfl⟩⟩, hst⟩
    obtain ⟨pa, pc, hcv, -, -⟩ := tk.cs.form
    subst hcv
    obtain ⟨brows, hb1, hb2⟩ := tk.bd
    obtain ⟨ba, bc, hbv, bc1, bc2⟩ := hb1.form
    rw [hb2.len] at hbv bc1
    subst hbv
    obtain ⟨rows, hk1, hk2⟩ := tk.kd
    obtain ⟨ka, kc, hkv, -, -⟩ := hk1.form
    generalize hkn : rows.length = kn at hkv
    subst hkv
    obtain ⟨er, her⟩ : ∃ er, ckP cels body f t = er := ⟨_, rfl⟩
    rw [her]
    simp only [tag]
    obtain ⟨w2, hw2⟩ : ∃ w2, w2 = w1.alloc (.cells #[.slice pa cels.length pc, .slice ba body.len bc, .int .i64 f.k, .int .i64 f.w, .int .i64 f.o, .int .u64 ((f.v : Nat) : Int), .int .i64 f.c, .int .i64 f.l, .slice ka kn kc, .int .i64 ((er : Nat) : Int), .slice ca0 cm0 cc0, .bool b0, .slice na0 nm0 nc0, .bool b1] 39) := ⟨_, rfl⟩
    have k2 : Keep w1 w2 := by rw [hw2]; exact (Keep.refl w1).alloc _
    have a2 : Arr w2 w1.heap.size 39 [.slice pa cels.length pc, .slice ba body.len bc, .int .i64 f.k, .int .i64 f.w, .int .i64 f.o, .int .u64 ((f.v : Nat) : Int), .int .i64 f.c, .int .i64 f.l, .slice ka kn kc, .int .i64 ((er : Nat) : Int), .slice ca0 cm0 cc0, .bool b0, .slice na0 nm0 nc0, .bool b1] := by rw [hw2]; exact Arr.new w1 39 _
    obtain ⟨gT, hgT⟩ : ∃ gT, gT = w1.heap.size := ⟨_, rfl⟩
    rw [← hgT] at a2
    have t9 : w2.cell? ⟨gT, 9, none⟩ = some (.int .i64 ((er : Nat) : Int)) := a2.cell 9
    have HK1 := Hid.mk k1
    have HK2 := Hid.mk k2
    have HA2 := Hid.mk a2
    have HTK := Hid.mk tk
    have HST := Hid.mk hst
    have HER := Hid.mk her
    have HB := Hid.mk (And.intro hb1 hb2)
    have HKD := Hid.mk (And.intro hk1 hk2)
    have HBC := Hid.mk (And.intro bc1 bc2)
    have HGT := Hid.mk hgT
    clear k1 k2 a2 tk hst her hb1 hb2 hk1 hk2 bc1 bc2 hkn
    go_upto_region 4 with fail
    rw [← hgT, ← hw2]
    clear hgT hw2
    by_cases he : er = 0
    · subst he
      have OKQ := ckP_ok HER.out
      obtain ⟨Sc, Sn, ⟨ca, cap, hv1, hvs1, hf1, sok1⟩, ⟨cb, capb, hv2, hvs2, hf2, sok2⟩⟩ := HST.out HER.out
      injection hv1 with e1 e2 e3
      subst e1 e2 e3 hf1
      injection hv2 with e1 e2 e3
      subst e1 e2 e3 hf2
      have kk := HK2.out
      have tk := HTK.out
      have bl : Calls Try.prog 8 #[prA (.slice pa cels.length pc) (.slice ba body.len bc) f (.slice ka kn kc)] w2 fun e w' => RBd cels body f t w2 e w' := build_c tk.cl tk.cr tk.bl (tk.cs.step (KP.of kk)) (HB.out.1.step (KP.of kk)) (HB.out.2.step (KP.of kk)) tk.ef (HKD.out.1.step (KP.of kk)) (HKD.out.2.step (KP.of kk)) (fun q a => Nat.lt_of_lt_of_le (tk.pl q a) kk.size)
      simp only [prA] at bl
      have HBL := Hid.mk bl
      have HOK := Hid.mk OKQ
      have HV1 := Hid.mk (And.intro hvs1 sok1)
      have HV2 := Hid.mk (And.intro hvs2 sok2)
      have a2 := HA2.out
      have e1 : ((((0 : Nat) : Nat) : Int) != 0) = false := rfl
      have t0 : w2.cell? ⟨gT, 0, none⟩ = some (.slice pa cels.length pc) := a2.cell 0
      have t1 : w2.cell? ⟨gT, 1, none⟩ = some (.slice ba body.len bc) := a2.cell 1
      have t2 : w2.cell? ⟨gT, 2, none⟩ = some (.int .i64 f.k) := a2.cell 2
      have t3 : w2.cell? ⟨gT, 3, none⟩ = some (.int .i64 f.w) := a2.cell 3
      have t4 : w2.cell? ⟨gT, 4, none⟩ = some (.int .i64 f.o) := a2.cell 4
      have t5 : w2.cell? ⟨gT, 5, none⟩ = some (.int .u64 ((f.v : Nat) : Int)) := a2.cell 5
      have t6 : w2.cell? ⟨gT, 6, none⟩ = some (.int .i64 f.c) := a2.cell 6
      have t7 : w2.cell? ⟨gT, 7, none⟩ = some (.int .i64 f.l) := a2.cell 7
      have t8 : w2.cell? ⟨gT, 8, none⟩ = some (.slice ka kn kc) := a2.cell 8
      clear kk tk bl OKQ hvs1 sok1 hvs2 sok2 a2
      go_wp2_with fail
      refine HBL.out.mono ?_
      rintro e w3 ⟨k3, h3⟩
      rcases h3 with ⟨hne, -⟩ | ⟨-, gS, gc, gv, G, pv, av, afl, gWc, fbc, gWn, fbn, gW3, fb3, b8, b9, b10, b11, rfl, sys⟩
      · exact absurd HER.out hne
      have l1 : Sc.cells.length = cels.length := by have := HV1.out.2.1; simpa using this
      have l2 : Sn.cells.length = cels.length := by have := HV2.out.2.1; simpa using this
      have HL12 := Hid.mk (And.intro l1 l2)
      have HSY := Hid.mk sys
      have HK3 := Hid.mk k3
      have a3 := HA2.out.keep k3
      have HA3 := Hid.mk a3
      have t12 : w3.cell? ⟨gT, 12, none⟩ = some (.slice na0 Sn.cells.length nc0) := a3.cell 12
      have t13 : w3.cell? ⟨gT, 13, none⟩ = some (.bool Sn.fault) := a3.cell 13
      have CP := Hid.mk (copy_c2 (w := w3) (b := Sn.fault) (Sl.keep HV2.out.1 (HK2.out.trans k3)) (by have := HTK.out.cl; omega))
      clear sys k3 a3 t0 t1 t2 t3 t4 t5 t6 t7 t8 t9 e1 l1 l2
      go_wp2_with fail
      refine CP.out.mono ?_
      rintro e w6 ⟨⟨v6, rfl, ow⟩, k6, hgr⟩
      obtain ⟨gC, cx, capx, spx, rfl, cl6, gc1, gc2, gor⟩ := own_cl (d := w3.heap.size) ow (Nat.le_refl _) hgr
      obtain ⟨w7, hw7⟩ : ∃ w7, w7 = w6.alloc (.cells #[.slice cx Sn.cells.length capx, .bool Sn.fault] 37) := ⟨_, rfl⟩
      have k7 : Keep w6 w7 := by rw [hw7]; exact (Keep.refl w6).alloc _
      have a7 : Arr w7 w6.heap.size 37 [.slice cx Sn.cells.length capx, .bool Sn.fault] := by rw [hw7]; exact Arr.new w6 37 _
      obtain ⟨g7, hg7⟩ : ∃ g7, g7 = w6.heap.size := ⟨_, rfl⟩
      rw [← hg7] at a7
      have st7 : StM w7 g7 gC cx capx spx Sn := ⟨a7, fun x => ⟨(cl6.ce x).1, (cl6.ce x).2.keep k7⟩, by omega, cl6.le, cl6.mx⟩
      have HST7 := Hid.mk st7
      have HK37 := Hid.mk (k6.trans k7)
      have HG7 : Hid (w3.heap.size ≤ gC ∧ gC < w7.heap.size ∧ w3.heap.size ≤ g7 ∧ g7 < w7.heap.size) := Hid.mk ⟨gc1, by have := k7.size; omega, by have := k6.size; omega, a7.lt⟩
      have t0 : w7.cell? ⟨gT, 0, none⟩ = some (.slice pa cels.length pc) := (HA3.out.keep (k6.trans k7)).cell 0
      have hci : (cels.length : Int) ≤ 1000000 := by have := HTK.out.cl; omega
      clear ow k6 hgr cl6 gc1 gc2 gor k7 a7 st7 t12 t13
      go_upto_region 10 with fail
      rw [← hg7, ← hw7]
      clear hg7 hw7
      go_wp2_with fail
      clear t0
      go_loopg [36] cels.length (fun gk v36 wr => ∃ (k : Nat), k + gk = cels.length ∧ v36 = .int .i64 k ∧ Fr (pS g7 gC) w7 wr ∧ StM wr g7 gC cx capx spx (mixK cels (fun _ => 0) Sn k))
      case atStart => exact ⟨0, by omega, rfl, Fr.refl _ _, HST7.out⟩
      case round =>
        obtain ⟨k, hk, rfl, fr, st⟩ := hrel
        have kR : Keep w3 wr := Fr.keep' ((Fr.keep HK37.out).trans (fr.mono (fun q _ e => by have := HG7.out; rcases e with e | e <;> omega)))
        have HKR := Hid.mk kR
        have HKK := Hid.mk hk
        have HFR := Hid.mk fr
        have HSTR := Hid.mk st
        have HML : Hid ((mixK cels (fun _ => 0) Sn k).cells.length = cels.length) := Hid.mk (by rw [mixK_len]; exact HL12.out.2)
        clear hk fr
        by_cases hlt : k < cels.length
        · have j1 : (k : Int) < cels.length := by omega
          have j2 : (0 : Int) ≤ k := by omega
          obtain ⟨cb, co, hca, hcel⟩ := (HTK.out.cs.step (KP.of ((HK2.out.trans HK3.out).trans kR))).cell hlt
          subst hca
          have c0 := hcel 0 (by decide)
          have c1 := hcel 1 (by decide)
          have c2 := hcel 2 (by decide)
          have c3 := hcel 3 (by decide)
          have c4 := hcel 4 (by decide)
          simp only [celC, List.getElem?_cons_zero, List.getElem?_cons_succ, Nat.add_zero] at c0 c1 c2 c3 c4
          have HNX : Hid (mixK cels (fun _ => 0) Sn (k + 1) = if cels[k].inp = true then (mixK cels (fun _ => 0) Sn k).put k 0 else mixK cels (fun _ => 0) Sn k) := Hid.mk (by rw [mixK, inpA_get hlt])
          generalize cels[k] = x at *
          obtain ⟨Z, hZ⟩ : ∃ Z, Z = wr.alloc (.cells #[.int .i64 x.w, .bool x.inp, .int .u64 (x.ini : Nat), .int .i64 x.lo, .int .i64 x.hi] 70) := ⟨_, rfl⟩
          have kZ : Keep wr Z := by rw [hZ]; exact (Keep.refl wr).alloc _
          have aZ : Arr Z wr.heap.size 70 [.int .i64 x.w, .bool x.inp, .int .u64 (x.ini : Nat), .int .i64 x.lo, .int .i64 x.hi] := by rw [hZ]; exact Arr.new wr 70 _
          have z1 : Z.cell? ⟨wr.heap.size, 1, none⟩ = some (.bool x.inp) := aZ.cell 1
          have stZ := st.keep kZ
          have HSZ := Hid.mk stZ
          have HFZ : Hid (Fr (pS g7 gC) w7 Z) := Hid.mk (HFR.out.trans (Fr.keep kZ))
          obtain ⟨s0, -, -⟩ := stZ.fs
          obtain ⟨s1, s2, s3⟩ := stZ.cell (i := k) (by rw [HML.out]; exact hlt)
          rw [HML.out, s1] at s0
          clear s1
          clear hcel st stZ kR aZ kZ
          go_upto_region 13 with fail
          rw [← hZ]
          generalize wr.heap.size = gZ at *
          clear hZ c0 c1 c2 c3 c4
          rcases Bool.eq_false_or_eq_true x.inp with hin | hin
          · rw [hin] at z1
            have HNX2 : Hid (mixK cels (fun _ => 0) Sn (k + 1) = (mixK cels (fun _ => 0) Sn k).put k 0) := Hid.mk (by rw [HNX.out, hin]; rfl)
            clear hin HNX
            generalize (mixK cels (fun _ => 0) Sn k).at k = y at *
            go_wp2_with fail
            go_roundg (gk - 1)
            case measure => have := HKK.out; omega
            case rel => exact ⟨k + 1, by have := HKK.out; omega, by go_num, HFZ.out.trans (frC _ _ _ _ _), by rw [HNX2.out]; exact HSZ.out.put (by rw [HML.out]; exact hlt) 0⟩
          · rw [hin] at z1
            have HNX2 : Hid (mixK cels (fun _ => 0) Sn (k + 1) = mixK cels (fun _ => 0) Sn k) := Hid.mk (by rw [HNX.out, hin]; rfl)
            clear hin HNX s0 s2 s3
            go_wp2_with fail
            go_roundg (gk - 1)
            case measure => have := HKK.out; omega
            case rel => exact ⟨k + 1, by have := HKK.out; omega, by go_num, HFZ.out, by rw [HNX2.out]; exact HSZ.out⟩
        · have j1 : ¬ (k : Int) < cels.length := by omega
          obtain rfl : k = cels.length := by have := HKK.out; omega
          have ar := HA3.out.keep kR
          have HAR := Hid.mk ar
          have t10 : wr.cell? ⟨gT, 10, none⟩ = some (.slice ca0 Sc.cells.length cc0) := ar.cell 10
          have t11 : wr.cell? ⟨gT, 11, none⟩ = some (.bool Sc.fault) := ar.cell 11
          have t12 : wr.cell? ⟨gT, 12, none⟩ = some (.slice na0 Sn.cells.length nc0) := ar.cell 12
          have t13 : wr.cell? ⟨gT, 13, none⟩ = some (.bool Sn.fault) := ar.cell 13
          have sysr := HSY.out.keep kR
          have HSR := Hid.mk sysr
          have pok := pins_ok HOK.out
          have HPOK := Hid.mk pok
          have cw := HOK.out.cw
          have HCW := Hid.mk cw
          have kall := (HK2.out.trans HK3.out).trans kR
          have HKALL := Hid.mk kall
          have HV1R := Hid.mk (Sl.keep HV1.out.1 kall)
          have HV2R := Hid.mk (Sl.keep HV2.out.1 kall)
          have IN := Hid.mk (ins_c (N := cels.length) (cur := Sc) (next := Sn) (sysr.ar.cell 12) sysr.pn HV1R.out HV2R.out HL12.out.1 HL12.out.2 (HV1.out.2.lt64 cw.1) (HV2.out.2.lt64 cw.1) HTK.out.cl pok.1 pok.2)
          clear st kR ar sysr pok cw kall
          go_wp2_with fail
          refine IN.out.mono ?_
          rintro e w8 ⟨ia, rfl, hin, k8⟩
          have sys8 := HSR.out.keep k8
          have HS8 := Hid.mk sys8
          have HIN := Hid.mk hin
          have HK8 := Hid.mk k8
          have hpl : ((pinAll (cwOf cels) (cnOf cels)).length : Int) ≤ 100000 := by have := HPOK.out.2; omega
          have SC := Hid.mk (states_c (N := cels.length) (sys8.ar.cell 1) (sys8.ar.cell 12) sys8.pn hin HTK.out.cl HPOK.out.1 HPOK.out.2)
          have HR0 : Hid (rd1 cels.length 0 (pinB Sc Sn) (pinAll (cwOf cels) (cnOf cels)) = Sc) := Hid.mk (rd_cur HV1.out.2 (cwOf_len cels) HPOK.out.1)
          have HR1 : Hid (rd1 cels.length 1 (pinB Sc Sn) (pinAll (cwOf cels) (cnOf cels)) = nxOf cels Sn) := Hid.mk (rd_next (nx_ok HV2.out.2) (cnOf_len cels) (nx_fault cels Sn) (nx_at HL12.out.2) HPOK.out.1)
          rw [HR0.out, HR1.out] at SC
          clear sys8 hin k8 t10 t11 t12 t13
          generalize hpln : (pinAll (cwOf cels) (cnOf cels)).length = pln at *
          have HPLN := Hid.mk hpln
          clear hpln
          go_wp2_with fail
          refine SC.out.mono ?_
          rintro e w9 ⟨g1, g2, rfl, vs1, vs2, k9⟩
          obtain ⟨wA, hwA⟩ : ∃ wA, wA = (w9.alloc (.cells #[.slice (some ⟨g1, 0, none⟩) cels.length cels.length, .bool Sc.fault] 37)).alloc (.cells #[.slice (some ⟨g2, 0, none⟩) cels.length cels.length, .bool (nxOf cels Sn).fault] 37) := ⟨_, rfl⟩
          have kA : Keep w9 wA := by rw [hwA]; exact ((Keep.refl w9).alloc _).alloc _
          have aA1 : Arr wA w9.heap.size 37 [.slice (some ⟨g1, 0, none⟩) cels.length cels.length, .bool Sc.fault] := by rw [hwA]; exact (Arr.new w9 37 _).keep ((Keep.refl _).alloc _)
          have aA2 : Arr wA (w9.heap.size + 1) 37 [.slice (some ⟨g2, 0, none⟩) cels.length cels.length, .bool (nxOf cels Sn).fault] := by
            have h9 := Arr.new (w9.alloc (.cells #[.slice (some ⟨g1, 0, none⟩) cels.length cels.length, .bool Sc.fault] 37)) 37 [.slice (some ⟨g2, 0, none⟩) cels.length cels.length, .bool (nxOf cels Sn).fault]
            rw [size_alloc1] at h9
            rw [hwA]; exact h9
          obtain ⟨g11, hg11⟩ : ∃ g11, g11 = w9.heap.size + 1 := ⟨_, rfl⟩
          obtain ⟨g10, hg10⟩ : ∃ g10, g10 = w9.heap.size := ⟨_, rfl⟩
          rw [← hg11] at aA2
          rw [← hg10] at aA1
          have k8A := k9.trans kA
          have sysA := HS8.out.keep k8A
          have HSA := Hid.mk sysA
          have HA1 := Hid.mk aA1
          have HA2' := Hid.mk aA2
          have HV1A := Hid.mk (Sl.keep vs1 kA)
          have HV2A := Hid.mk (Sl.keep vs2 kA)
          have HK8A := Hid.mk k8A
          have q0 : wA.cell? ⟨gS, 0, none⟩ = some (.pointer (some ⟨gc, 0, none⟩)) := sysA.ar.cell 0
          have EV := Hid.mk (eval_c sysA.cc sysA.wf (by have := sysA.gl; omega) (Sl.keep HIN.out k8A))
          clear kA aA1 aA2 k8A sysA vs1 vs2 k9
          go_upto_region 18 with fail
          rw [← hg11, ← hg10, ← hwA]
          clear hg11 hg10 hwA
          go_wp2_with fail
          refine EV.out.mono ?_
          rintro e wB ⟨vv, rfl, kB, hvv⟩
          obtain ⟨ua, uc, hu, -, -⟩ := hvv.form
          subst hu
          go_upto_region 19 with fail
          have kd := (Keep.refl wB).drew
          have sB := HSA.out.keep (kB.trans kd)
          have aT := (HAR.out.keep (HK8.out.trans (HK8A.out.trans (kB.trans kd))))
          have stB := HSTR.out.keep (HK8.out.trans (HK8A.out.trans (kB.trans kd)))
          have aC := HA1.out.keep (kB.trans kd)
          have aD := HA2'.out.keep (kB.trans kd)
          have hnl : (nxOf cels Sn).cells.length = cels.length := by rw [nxOf, mixK_len]; exact HL12.out.2
          have hS0 : S0 cels (inpF ((pinAll (cwOf cels) (cnOf cels)).map (pinB Sc Sn))) = Sc := stIn_cur HV1.out.2
          have hS1 : S1 cels (inpF ((pinAll (cwOf cels) (cnOf cels)).map (pinB Sc Sn))) = nxOf cels Sn := stIn_next (nx_ok HV2.out.2) (nx_fault cels Sn) (nx_at HL12.out.2)
          refine kb_c gT gS gc g7 g10 g11 ia pln (.slice ca0 Sc.cells.length cc0) (.bool Sc.fault) (.slice cx (nxOf cels Sn).cells.length capx) (.bool (nxOf cels Sn).fault) (.slice (some ⟨g1, 0, none⟩) cels.length cels.length) (.bool Sc.fault) (.slice (some ⟨g2, 0, none⟩) cels.length cels.length) (.bool (nxOf cels Sn).fault) _ rfl rfl rfl rfl rfl rfl rfl rfl (aC.cell 0) (aC.cell 1) (aD.cell 0) (aD.cell 1) stB.fs.1 stB.fs.2.1 (sB.ar.cell 0) (aT.cell 10) (aT.cell 11) (fun k u Z => match k with
            | 0 => u = .int .i64 ((pln : Nat) : Int)
            | 3 => ∃ a c, u = .agg #[.slice a Sc.cells.length c, .bool Sc.fault] ∧ Vs Z (.slice a Sc.cells.length c) Sc.cells
            | 5 => ∃ a c, u = .agg #[.slice a (nxOf cels Sn).cells.length c, .bool (nxOf cels Sn).fault] ∧ Vs Z (.slice a (nxOf cels Sn).cells.length c) (nxOf cels Sn).cells
            | _ => u = .bool true) ?_ ?_ ?_ ?_ ?_ ?_ ?_ ?_ ?_ ?_ ?_ ?_ ?_ ?_
          · intro k u Z Z' kz hu
            match k, hu with
            | 0, hu => exact hu
            | 1, hu => exact hu
            | 2, hu => exact hu
            | 3, ⟨a, c, e, hv⟩ => exact ⟨a, c, e, Sl.keep hv kz⟩
            | 4, hu => exact hu
            | 5, ⟨a, c, e, hv⟩ => exact ⟨a, c, e, Sl.keep hv kz⟩
            | k + 6, hu => exact hu
          · intro Z kz
            refine (numInputs_c (sB.keep kz).cc).mono ?_
            rintro e w' ⟨rfl, rfl⟩
            exact ⟨_, rfl, (by show Value.int .i64 _ = _; rw [HPLN.out]), Keep.refl _⟩
          · intro u Z hu
            exact hu
          · intro Z kz
            have h9 := same_t (w := Z) (sa := some ⟨g1, 0, none⟩) (sc := cels.length) (ta := ca0) (tc := cc0) (l := Sc.cells) (b := Sc.fault) (by rw [HL12.out.1]; exact Sl.keep HV1A.out ((kB.trans kd).trans kz)) (Sl.keep HV1R.out ((HK8.out.trans (HK8A.out.trans (kB.trans kd))).trans kz)) (by rw [HL12.out.1]; exact HTK.out.cl)
            rw [HL12.out.1] at h9 ⊢
            refine h9.mono ?_
            rintro e w' ⟨rfl, k⟩
            exact ⟨_, rfl, rfl, k⟩
          · intro u Z hu
            exact hu
          · intro Z kz
            have h9 := same_t (w := Z) (sa := some ⟨g2, 0, none⟩) (sc := cels.length) (ta := cx) (tc := capx) (l := (nxOf cels Sn).cells) (b := (nxOf cels Sn).fault) (by rw [hnl]; exact Sl.keep HV2A.out ((kB.trans kd).trans kz)) (Sl.keep stB.vs kz) (by rw [hnl]; exact HTK.out.cl)
            rw [hnl] at h9 ⊢
            refine h9.mono ?_
            rintro e w' ⟨rfl, k⟩
            exact ⟨_, rfl, rfl, k⟩
          · intro u Z hu
            exact hu
          · intro Z kz
            have sZ := sB.keep kz
            have h9 := value_c (gF := gS) (oF := 1) sZ.cur sZ.wf (by rw [cwOf_len]; exact sZ.ar.cell 1) (sZ.ar.cell 2) (Sl.keep hvv (kd.trans kz)) HOK.out.cw.1 (by rw [cwOf_len]; exact HTK.out.cl)
            rw [hS0] at h9
            refine h9.mono ?_
            rintro e w' ⟨⟨v, rfl, ow⟩, k⟩
            obtain ⟨a, c, rfl, hv⟩ := own_vsl ow
            exact ⟨_, rfl, ⟨a, c, rfl, hv⟩, k⟩
          · rintro Z u kz ⟨a, c, rfl, hv⟩
            refine (same_t hv (Sl.keep HV1R.out ((HK8.out.trans (HK8A.out.trans (kB.trans kd))).trans kz)) (by rw [HL12.out.1]; exact HTK.out.cl)).mono ?_
            rintro e w' ⟨rfl, k⟩
            exact ⟨_, rfl, rfl, k⟩
          · intro u Z hu
            exact hu
          · intro Z kz
            have sZ := sB.keep kz
            have h9 := value_c (gF := gS) (oF := 3) sZ.nxt sZ.wf (by rw [cnOf_len]; exact sZ.ar.cell 3) (sZ.ar.cell 4) (Sl.keep hvv (kd.trans kz)) HOK.out.cw.2 (by rw [cnOf_len]; exact HTK.out.cl)
            rw [hS1] at h9
            refine h9.mono ?_
            rintro e w' ⟨⟨v, rfl, ow⟩, k⟩
            obtain ⟨a, c, rfl, hv⟩ := own_vsl ow
            exact ⟨_, rfl, ⟨a, c, rfl, hv⟩, k⟩
          · rintro Z u kz ⟨a, c, rfl, hv⟩
            refine (same_t hv (Sl.keep stB.vs kz) (by rw [hnl]; exact HTK.out.cl)).mono ?_
            rintro e w' ⟨rfl, k⟩
            exact ⟨_, rfl, rfl, k⟩
          · intro u Z hu
            exact hu
          · intro vs19 w' hv hex kz
            have HK9 := Hid.mk ((HK1.out.trans HKALL.out).trans ((HK8.out.trans (HK8A.out.trans (kB.trans kd))).trans kz))
            simp only [Lmx, kbT, List.filterMap_cons, List.filterMap_nil, ment, Option.map_some, Option.map_none, mval, lay, List.foldl_cons, List.foldl_nil]
            simp only [put_litx, List.set_cons_succ, List.set_cons_zero]
            clear sB aT stB aC aD hS0 hS1 hvv kd kB hv hex kz
            go_wp2_with fail
            go_ret
            exact ⟨rfl, HK9.out⟩
    · have e1 : (((er : Nat) : Int) != 0) = true := by simp; omega
      go_wp2_with fail
      go_ret
      exact ⟨rfl, HK1.out.trans HK2.out⟩
  · have hd : decide (sc.length ≤ 65536) = false := decide_eq_false hsm
    rw [hd] at SM
    clear hs hd hsm EX
    go_enter Try.func5, Try.ntmps5
    go_wp2_with fail
    refine SM.out.mono ?_
    rintro e y ⟨rfl, hy⟩
    have hy2 := hy.symm
    clear hy
    subst hy2
    go_wp2_with fail
    go_ret
    exact ⟨rfl, Keep.refl _⟩
end Go.Proofs.Qxb6500772a
