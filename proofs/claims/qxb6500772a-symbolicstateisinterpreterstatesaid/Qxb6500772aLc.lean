/- blastlaw: SymbolicStateIsInterpreterState. -/
import Derived.Test.Qxb6500772aPl
import Derived.Test.Qxb6500772aXc
import Derived.Test.Qxb6500772aLa
import Derived.Test.Qxb6500772aLb
import Derived.Test.Qxb6500772aLd
import Derived.Test.Qxb6500772aLe
import Derived.Test.Qxb6500772aHi
import Derived.Test.Qxb6500772aIb
import Derived.BigQuiet
namespace Go.Proofs.Qxb6500772a
open Go Go.RowKit Go.Qm
set_option linter.unusedVariables false
set_option linter.unusedSimpArgs false
attribute [local go_sem ↓] Go.wp_at_zero Go.wp_at_succ
theorem own_vs {B : Nat} {w : World} {v : Value} {l : List Nat} (h : Own B 28 w v (l.map uv)) : ∃ a c, v = .slice a l.length c ∧ Vs w v l := by
  rcases h.form with ⟨rfl, e⟩ | ⟨g, cap, sp, rfl, hB, hg, hc, hm⟩
  · have e1 : l = [] := List.map_eq_nil_iff.1 e
    subst e1
    exact ⟨none, 0, rfl, none, 0, rfl, by simp, by simp [maxLen], fun k u hu => by simp at hu⟩
  · rw [List.length_map] at hc ⊢
    have cl : Cl w g (some ⟨g, 0, none⟩) cap sp l := ⟨fun _ => ⟨rfl, hg⟩, by omega, hm⟩
    exact ⟨_, _, rfl, cl.vs⟩
set_option maxRecDepth 4000 in
set_option maxHeartbeats 4000000 in
theorem symb_c {w : World} {v : Value} {sc : List OpR} (hs : Script w v sc) : Calls Try.prog 3 #[v] w fun e w' => e = .returned (.bool true) ∧ Keep w w' := by
  have EX : ∀ (P : Nat → Prop) (cels : List Cel) (f : EF) (t : SL), cels.length ≤ 1000000 → (∀ c ∈ cels, 1 ≤ c.w ∧ c.w ≤ 64) → ExC P cels f t := fun P cels f t h1 h2 => exec_n h1 h2 f _ t rfl
  have SM := Hid.mk (small_c hs)
  have hs0 := hs
  obtain ⟨va, vc, rfl, -⟩ := hs0
  by_cases hsm : sc.length ≤ 65536
  · have PL := Hid.mk (play_c hs hsm EX)
    have hd : decide (sc.length ≤ 65536) = true := decide_eq_true hsm
    rw [hd] at SM
    have HEX := Hid.mk EX
    clear hs hd hsm EX
    go_enter Try.func3, Try.ntmps3
    go_wp2_with fail
    refine SM.out.mono ?_
    rintro e y ⟨rfl, hy⟩
    have hy2 := hy.symm
    clear hy
    subst hy2
    go_wp2_with fail
    refine PL.out.mono ?_
    rintro e w1 ⟨k1, P, cels, body, f, t, cv, bv, kv, c0, b0, n0, b1, rfl, tk, ⟨⟨ca0, cm0, cc0, rfl⟩, ⟨na0, nm0, nc0, rfl⟩⟩, hst⟩
    obtain ⟨pa, pc, hcv, -, -⟩ := tk.cs.form
    subst hcv
    obtain ⟨brows, hb1, hb2⟩ := tk.bd
    obtain ⟨ba, bc, hbv, bc1, bc2⟩ := hb1.form
    rw [hb2.len] at hbv bc1
    subst hbv
    obtain ⟨rows, hk1, hk2⟩ := tk.kd
    obtain ⟨ka, kc, hkv, -, -⟩ := hk1.form
    generalize hkn : rows.length = kn at hkv
    subst hkv
    obtain ⟨er, her⟩ : ∃ er, ckP cels body f t = er := ⟨_, rfl⟩
    rw [her]
    simp only [tag]
    obtain ⟨w2, hw2⟩ : ∃ w2, w2 = w1.alloc (.cells #[.slice pa cels.length pc, .slice ba body.len bc, .int .i64 f.k, .int .i64 f.w, .int .i64 f.o, .int .u64 ((f.v : Nat) : Int), .int .i64 f.c, .int .i64 f.l, .slice ka kn kc, .int .i64 ((er : Nat) : Int), .slice ca0 cm0 cc0, .bool b0, .slice na0 nm0 nc0, .bool b1] 39) := ⟨_, rfl⟩
    have k2 : Keep w1 w2 := by rw [hw2]; exact (Keep.refl w1).alloc _
    have a2 : Arr w2 w1.heap.size 39 [.slice pa cels.length pc, .slice ba body.len bc, .int .i64 f.k, .int .i64 f.w, .int .i64 f.o, .int .u64 ((f.v : Nat) : Int), .int .i64 f.c, .int .i64 f.l, .slice ka kn kc, .int .i64 ((er : Nat) : Int), .slice ca0 cm0 cc0, .bool b0, .slice na0 nm0 nc0, .bool b1] := by rw [hw2]; exact Arr.new w1 39 _
    obtain ⟨gT, hgT⟩ : ∃ gT, gT = w1.heap.size := ⟨_, rfl⟩
    rw [← hgT] at a2
    have t9 : w2.cell? ⟨gT, 9, none⟩ = some (.int .i64 ((er : Nat) : Int)) := a2.cell 9
    have HK1 := Hid.mk k1
    have HK2 := Hid.mk k2
    have HA2 := Hid.mk a2
    have HTK := Hid.mk tk
    have HST := Hid.mk hst
    have HER := Hid.mk her
    have HB := Hid.mk (And.intro hb1 hb2)
    have HKD := Hid.mk (And.intro hk1 hk2)
    have HBC := Hid.mk (And.intro bc1 bc2)
    have HGT := Hid.mk hgT
    clear k1 k2 a2 tk hst her hb1 hb2 hk1 hk2 bc1 bc2 hkn
    go_upto_region 4 with fail
    rw [← hgT, ← hw2]
    clear hgT hw2
    by_cases he : er = 0
    · subst he
      have OKQ := ckP_ok HER.out
      obtain ⟨Sc, Sn, ⟨ca, cap, hv1, hvs1, hf1, sok1⟩, ⟨cb, capb, hv2, hvs2, hf2, sok2⟩⟩ := HST.out HER.out
      injection hv1 with e1 e2 e3
      subst e1 e2 e3 hf1
      injection hv2 with e1 e2 e3
      subst e1 e2 e3 hf2
      have kk := HK2.out
      have tk := HTK.out
      have bl : Calls Try.prog 8 #[prA (.slice pa cels.length pc) (.slice ba body.len bc) f (.slice ka kn kc)] w2 fun e w' => RBd cels body f t w2 e w' := build_c tk.cl tk.cr tk.bl (tk.cs.step (KP.of kk)) (HB.out.1.step (KP.of kk)) (HB.out.2.step (KP.of kk)) tk.ef (HKD.out.1.step (KP.of kk)) (HKD.out.2.step (KP.of kk)) (fun q a => Nat.lt_of_lt_of_le (tk.pl q a) kk.size)
      simp only [prA] at bl
      have HBL := Hid.mk bl
      have HOK := Hid.mk OKQ
      have HV1 := Hid.mk (And.intro hvs1 sok1)
      have HV2 := Hid.mk (And.intro hvs2 sok2)
      have a2 := HA2.out
      have e1 : ((((0 : Nat) : Nat) : Int) != 0) = false := rfl
      have t0 : w2.cell? ⟨gT, 0, none⟩ = some (.slice pa cels.length pc) := a2.cell 0
      have t1 : w2.cell? ⟨gT, 1, none⟩ = some (.slice ba body.len bc) := a2.cell 1
      have t2 : w2.cell? ⟨gT, 2, none⟩ = some (.int .i64 f.k) := a2.cell 2
      have t3 : w2.cell? ⟨gT, 3, none⟩ = some (.int .i64 f.w) := a2.cell 3
      have t4 : w2.cell? ⟨gT, 4, none⟩ = some (.int .i64 f.o) := a2.cell 4
      have t5 : w2.cell? ⟨gT, 5, none⟩ = some (.int .u64 ((f.v : Nat) : Int)) := a2.cell 5
      have t6 : w2.cell? ⟨gT, 6, none⟩ = some (.int .i64 f.c) := a2.cell 6
      have t7 : w2.cell? ⟨gT, 7, none⟩ = some (.int .i64 f.l) := a2.cell 7
      have t8 : w2.cell? ⟨gT, 8, none⟩ = some (.slice ka kn kc) := a2.cell 8
      clear kk tk bl OKQ hvs1 sok1 hvs2 sok2 a2
      go_wp2_with fail
      refine HBL.out.mono ?_
      rintro e w3 ⟨k3, h3⟩
      rcases h3 with ⟨hne, -⟩ | ⟨-, gS, gc, gv, G, pv, av, afl, gWc, fbc, gWn, fbn, gW3, fb3, b8, b9, b10, b11, rfl, sys⟩
      · exact absurd HER.out hne
      rcases sys.aw.form with ⟨-, e0⟩ | ⟨ga, acap, acur, hav, -, hAa, ha1, ha2, ha3, ha4⟩
      · have := sys.al
        rw [e0] at this
        simp at this
      subst hav
      have q7 : w3.cell? ⟨gS, 7, none⟩ = some (.slice (some ⟨ga, 0, none⟩) afl.length acap) := sys.ar.cell 7
      have y1 : w3.cell? ⟨gT, 1, none⟩ = some (.slice ba body.len bc) := (HA2.out.keep k3).cell 1
      have hal : afl.length = body.len + 1 := sys.al
      have hbl : body.len ≤ 1000000 := by have h1 := HTK.out.bl; have h2 := SL.len_size body; omega
      have nq7 : ((afl.length : Int) != (body.len : Int) + 1) = false := by simp; omega
      have wr1 : IntKind.i64.wrap ((body.len : Int) + 1) = (body.len : Int) + 1 := by rw [IntKind.wrap_i64]; omega
      have HSY := Hid.mk sys
      have HK3 := Hid.mk k3
      have HAL := Hid.mk hal
      have HBLN := Hid.mk hbl
      have HAA := Hid.mk (And.intro hAa (And.intro ha1 (And.intro ha2 (And.intro ha3 ha4))))
      clear sys k3 hal hbl hAa ha1 ha2 ha3 ha4 t0 t1 t2 t3 t4 t5 t6 t7 t8 t9 e1
      go_upto_region 7 with fail
      go_quiet (fail)
      have KD : Keep w3 (w3.drewN nq) := (Keep.refl w3).drewN nq
      have HKD3 := Hid.mk KD
      generalize w3.drewN nq = w4 at HKD3 ⊢
      clear KD q7 y1 nq7 wr1
      go_upto_region 9 with fail
      have sys4 := HSY.out.keep HKD3.out
      have a4 := (HA2.out.keep HK3.out).keep HKD3.out
      have kdd := (Keep.refl w4).drew
      have kall := ((HK2.out.trans HK3.out).trans HKD3.out).trans kdd
      have l1 : Sc.cells.length = cels.length := by have := HV1.out.2.1; simpa using this
      have l2 : Sn.cells.length = cels.length := by have := HV2.out.2.1; simpa using this
      have pok := pins_ok HOK.out
      have cw := HOK.out.cw
      refine y9_c gT gS gc 0 0 0 0 0 0 0 0 0 0 0 0 0 Sc.cells.length cc0 Sn.cells.length nc0 none none ca0 na0 f Sc.fault Sn.fault (.bool false) rfl rfl rfl (sys4.ar.drew.cell 0) (a4.drew.cell 10) (a4.drew.cell 11) (a4.drew.cell 12) (a4.drew.cell 13) (fun u Z => Sl Z u (((pinAll (cwOf cels) (cnOf cels)).map (pinB Sc Sn)).map bval)) (fun u Z => Vs Z u (ev G (inpF ((pinAll (cwOf cels) (cnOf cels)).map (pinB Sc Sn))))) ?_ ?_ ?_
      · intro Z kz
        have sZ := sys4.keep (kdd.trans kz)
        refine (ins_c (N := cels.length) (cur := Sc) (next := Sn) (sZ.ar.cell 12) sZ.pn (Sl.keep HV1.out.1 (kall.trans kz)) (Sl.keep HV2.out.1 (kall.trans kz)) l1 l2 (HV1.out.2.lt64 cw.1) (HV2.out.2.lt64 cw.1) HTK.out.cl pok.1 pok.2).mono ?_
        rintro e w' ⟨a, rfl, hs, k⟩
        exact ⟨_, rfl, hs, k⟩
      · intro Z u kz hu
        have sZ := sys4.keep (kdd.trans kz)
        refine (eval_c sZ.cc sZ.wf (by have := sZ.gl; omega) hu).mono ?_
        rintro e w' ⟨vv, rfl, k, hv⟩
        exact ⟨_, rfl, hv, k⟩
      intro vs9 u w5 e2 hV k5
      obtain ⟨ua, uc, hu, -, -⟩ := hV.form
      subst hu
      simp only [Lmx, y9T, List.filterMap_cons, List.filterMap_nil, ment, Option.map_some, Option.map_none, mval, e2, Option.getD_some, lay, List.foldl_cons, List.foldl_nil]
      simp only [put_litx, List.set_cons_succ, List.set_cons_zero]
      have HKA := Hid.mk (kall.trans k5)
      have HV := Hid.mk hV
      have HK5 := Hid.mk ((HKD3.out.trans kdd).trans k5)
      have HS5 := Hid.mk (sys4.keep (kdd.trans k5))
      have a5 := a4.keep (kdd.trans k5)
      have HA5 := Hid.mk a5
      have CP := Hid.mk (copy_c2 (w := w5) (b := Sc.fault) (Sl.keep HV1.out.1 (kall.trans k5)) (by have := HTK.out.cl; omega))
      have t10 : w5.cell? ⟨gT, 10, none⟩ = some (.slice ca0 Sc.cells.length cc0) := a5.cell 10
      have t11 : w5.cell? ⟨gT, 11, none⟩ = some (.bool Sc.fault) := a5.cell 11
      have HL1 := Hid.mk l1
      clear sys4 a4 kdd kall l1 l2 pok cw a5 hV k5 e2
      go_wp2_with fail
      refine CP.out.mono ?_
      rintro e w6 ⟨⟨v6, rfl, ow⟩, k6, hgr⟩
      obtain ⟨gC, cx, capx, spx, rfl, cl6, gc1, gc2, gor⟩ := own_cl (d := w5.heap.size) ow (Nat.le_refl _) hgr
      obtain ⟨w7, hw7⟩ : ∃ w7, w7 = w6.alloc (.cells #[.slice cx Sc.cells.length capx, .bool Sc.fault] 37) := ⟨_, rfl⟩
      have k7 : Keep w6 w7 := by rw [hw7]; exact (Keep.refl w6).alloc _
      have a7 : Arr w7 w6.heap.size 37 [.slice cx Sc.cells.length capx, .bool Sc.fault] := by rw [hw7]; exact Arr.new w6 37 _
      obtain ⟨g7, hg7⟩ : ∃ g7, g7 = w6.heap.size := ⟨_, rfl⟩
      rw [← hg7] at a7
      have st7 : StM w7 g7 gC cx capx spx Sc := ⟨a7, fun x => ⟨(cl6.ce x).1, (cl6.ce x).2.keep k7⟩, by omega, cl6.le, cl6.mx⟩
      have HST7 := Hid.mk st7
      have HK57 := Hid.mk (k6.trans k7)
      have HG7 : Hid (w5.heap.size ≤ gC ∧ gC < w7.heap.size ∧ w5.heap.size ≤ g7 ∧ g7 < w7.heap.size) := Hid.mk ⟨gc1, by have := k7.size; omega, by have := k6.size; omega, a7.lt⟩
      have q7 : w7.cell? ⟨gS, 7, none⟩ = some (.slice (some ⟨ga, 0, none⟩) afl.length acap) := (HS5.out.ar.keep (k6.trans k7)).cell 7
      have hai : (afl.length : Int) ≤ 1000001 := by have := HAL.out; have := HBLN.out; omega
      clear ow k6 hgr cl6 gc1 gc2 gor k7 a7 st7 t10 t11
      go_upto_region 11 with fail
      rw [← hg7, ← hw7]
      clear hg7 hw7
      go_wp2_with fail
      clear q7
      go_loopg [57] afl.length (fun gk v57 wr => ∃ (k : Nat), k + gk = afl.length ∧ v57 = .int .i64 k ∧ Fr (pS g7 gC) w7 wr ∧ StM wr g7 gC cx capx spx (exF cels (body.toL.take (k - 1)) Sc))
      case atStart => exact ⟨0, by omega, rfl, Fr.refl _ _, HST7.out⟩
      case round =>
        obtain ⟨k, hk, rfl, fr, st⟩ := hrel
        have kR : Keep w5 wr := Fr.keep' ((Fr.keep HK57.out).trans (fr.mono (fun q _ e => by have := HG7.out; rcases e with e | e <;> omega)))
        have HKR := Hid.mk kR
        have HKK := Hid.mk hk
        have HFR := Hid.mk fr
        have HSTR := Hid.mk st
        have HSYR := Hid.mk (HS5.out.keep kR)
        have HAR := Hid.mk (HA5.out.keep kR)
        have HVR := Hid.mk (Sl.keep HV.out kR)
        clear hk fr st
        by_cases hlt : k < afl.length
        · have j1 : (k : Int) < afl.length := by omega
          by_cases hk0 : k = 0
          · have st0 : StM wr g7 gC cx capx spx (exF cels (body.toL.take k) Sc) := by
              have h9 := HSTR.out
              rw [hk0] at h9 ⊢
              exact h9
            have e0 : ¬ (0 : Int) < (k : Int) := by omega
            have st := st0
            have hS0 : S0 cels (inpF ((pinAll (cwOf cels) (cnOf cels)).map (pinB Sc Sn))) = Sc := stIn_cur HV1.out.2
            rw [← hS0] at st
            have kdd := (Keep.refl wr).drew
            obtain ⟨s0, s1, -⟩ := (st.keep kdd).fs
            have kx := HKR.out
            have HFX := Hid.mk (HFR.out)
            have HSTX := Hid.mk (st0)
            have sysx := HS5.out.keep kx
            go_upto_region 16 with fail
            refine y16_c 0 gS 0 ga g7 afl.length acap k 0 0 0 0 0 0 0 0 _ capx 0 0 none none cx none f _ false _ rfl rfl rfl rfl rfl (sysx.ar.drew.cell 7) s0 s1 hlt (fun x Z => ∃ a c, x = .agg #[.slice a (exF cels (body.toL.take k) (S0 cels (inpF ((pinAll (cwOf cels) (cnOf cels)).map (pinB Sc Sn))))).cells.length c, .bool (exF cels (body.toL.take k) (S0 cels (inpF ((pinAll (cwOf cels) (cnOf cels)).map (pinB Sc Sn))))).fault] ∧ Vs Z (.slice a (exF cels (body.toL.take k) (S0 cels (inpF ((pinAll (cwOf cels) (cnOf cels)).map (pinB Sc Sn))))).cells.length c) (exF cels (body.toL.take k) (S0 cels (inpF ((pinAll (cwOf cels) (cnOf cels)).map (pinB Sc Sn))))).cells) ?_ ?_ ?_
            · intro Z kz
              have sZ := sysx.keep (kdd.trans kz)
              have lcw : (cwOf cels).length = cels.length := by simp [cwOf]
              have hAz := ((HAA.out.1.keep HK5.out).keep kx).keep (kdd.trans kz)
              have x0 := (hAz.cell (k * 2 + 0)).trans (flat_take_get (fmC_len cels.length) HAA.out.2.2.2.2 k 0 hlt (by decide))
              have x1 := (hAz.cell (k * 2 + 1)).trans (flat_take_get (fmC_len cels.length) HAA.out.2.2.2.2 k 1 hlt (by decide))
              refine (value_c (gF := ga) (oF := k * 2) (sZ.aft k hlt) sZ.wf (by rw [lcw]; exact x0) x1 (Sl.keep HV.out (kx.trans (kdd.trans kz))) HOK.out.cw.1 (by rw [lcw]; exact HTK.out.cl)).mono ?_
              rintro e w' ⟨⟨v, rfl, ow⟩, kk⟩
              obtain ⟨a, c, rfl, hv⟩ := own_vs ow
              exact ⟨_, rfl, ⟨a, c, rfl, hv⟩, kk⟩
            · rintro Z x kz ⟨a, c, rfl, hv⟩
              refine (same_t hv (Sl.keep (st.keep kdd).vs kz) ?_).mono ?_
              · have h2 := (sysx.aft k hlt).sl (inpF ((pinAll (cwOf cels) (cnOf cels)).map (pinB Sc Sn)))
                have lcw : (cwOf cels).length = cels.length := by simp [cwOf]
                rw [h2, lcw]
                exact HTK.out.cl
              · rintro e w' ⟨he, kk⟩
                exact ⟨he, kk⟩
            · intro vs16 w9 e2 k9
              simp only [Lmx, y16T, List.filterMap_cons, List.filterMap_nil, ment, Option.map_some, Option.map_none, mval, e2, Option.getD_some, lay, List.foldl_cons, List.foldl_nil]
              simp only [put_litx, List.set_cons_succ, List.set_cons_zero]
              have HK9 := Hid.mk (kdd.trans k9)
              clear st hS0 kdd s0 s1 kx sysx e2 k9
              go_wp2_with fail
              go_roundg (gk - 1)
              case measure => have := HKK.out; omega
              case rel => exact ⟨k + 1, by have := HKK.out; omega, by go_num, HFX.out.trans (Fr.keep HK9.out), by rw [Nat.add_sub_cancel]; exact HSTX.out.keep HK9.out⟩
          · have e0 : (0 : Int) < (k : Int) := by omega
            obtain ⟨n, hkn⟩ : ∃ n, k = n + 1 := ⟨k - 1, by omega⟩
            have hnb : n < body.toL.length := by have h1 := HAL.out; have h2 : body.len = body.toL.length := rfl; omega
            have kdd := (Keep.refl wr).drew
            have kw1 := (HKA.out.trans HKR.out).trans kdd
            have kw2 := kw1
            have hlr : brows.length = body.len := HB.out.2.len
            have hrw := HB.out.1.step (KP.of kw1)
            obtain ⟨bb, bo, hba, -, -, -⟩ := Rows.cell hrw (i := n) (by rw [hlr]; exact hnb)
            subst hba
            have hok := exF_ok (ws := cels.map (·.w)) (fun a ha => by obtain ⟨c, hc, rfl⟩ := List.mem_map.1 ha; exact ⟨(HOK.out.ce c hc).w1, (HOK.out.ce c hc).w2⟩) (body.toL.take n) (fun x hx => wtS_mem HOK.out.wb x (List.mem_of_mem_take hx)) Sc HV1.out.2
            have st1 := HSTR.out
            rw [hkn, Nat.add_sub_cancel] at st1
            have EXC := HEX.out P cels f (one1 body.toL[n]) HTK.out.cl (fun c hc => ⟨(HOK.out.ce c hc).w1, (HOK.out.ce c hc).w2⟩) wr.drew _ (.slice (some ⟨bb, bo, none⟩) body.len bc) (.slice ka kn kc) _ _ g7 gC cx capx spx _ (fun q a e => by have h1 := HTK.out.pl q a; have h2 := HG7.out; have h3 := HKA.out.size; rcases e with e | e <;> omega) (HTK.out.cs.step (KP.of kw1)) ⟨_, _, _, rfl⟩ ⟨_, _, _, rfl⟩ (one1_r hrw (by rw [hlr]; exact hnb)) (one1_w (HB.out.2.step (KP.of kw1)) hnb (by rw [hlr]; exact hnb)) (one1_wt HOK.out.wb (List.getElem_mem hnb)) (st1.keep kdd) hok (by have h1 := HG7.out; have h2 := HFR.out.size; have h3 : wr.drew.heap.size = wr.heap.size := rfl; omega)
            simp only [prA] at EXC
            rw [one1_ex] at EXC
            have aR := HAR.out.drew
            have hbc := HBC.out
            have hkn2 : ((k : Nat) : Int) = (((n + 1 : Nat)) : Int) := by rw [hkn]
            go_upto_region 15 with fail
            refine z15_c gT 0 0 0 g7 0 0 n cels.length pc bb bo body.len bc kn kc 0 0 0 0 pa ka none none f false false (.bool false) rfl rfl rfl (by show some (Value.int IntKind.i64 ((k : Nat) : Int)) = _; rw [hkn2]) (aR.cell 0) (aR.cell 1) (aR.cell 2) (aR.cell 3) (aR.cell 4) (aR.cell 5) (aR.cell 6) (aR.cell 7) (aR.cell 8) hnb (by omega) (by have := hbc.2; unfold maxLen at this; omega) (by have := HBLN.out; have h2 : body.len = body.toL.length := rfl; omega) _ EXC ?_
            rintro vs15 w8 ⟨st8, fr8⟩
            simp only [Lmx, z15T, List.filterMap_cons, List.filterMap_nil, ment, Option.map_some, Option.map_none, mval, lay, List.foldl_cons, List.foldl_nil]
            simp only [put_litx, List.set_cons_succ, List.set_cons_zero]
            have st8' : StM w8 g7 gC cx capx spx (exF cels (body.toL.take k) Sc) := by
              have h9 : exF cels (body.toL.take k) Sc = exX (cels.map (·.w)) (exF cels (body.toL.take n) Sc) body.toL[n] := by
                rw [hkn, List.take_succ_eq_append_getElem hnb]
                unfold exF
                rw [List.foldl_append]
                rfl
              rw [h9]
              exact st8
            have fr7 := (HFR.out.trans (Fr.keep kdd)).trans fr8
            have k58 : Keep w5 w8 := Fr.keep' ((Fr.keep HK57.out).trans (fr7.mono (fun q _ e => by have := HG7.out; rcases e with e | e <;> omega)))
            have HK58 := Hid.mk k58
            have HF7 := Hid.mk fr7
            have HS8 := Hid.mk st8'
            clear kdd kw1 kw2 hlr hrw hok st1 EXC aR hbc hkn2 st8 fr8 st8' fr7 k58
            have st := HS8.out
            have hS0 : S0 cels (inpF ((pinAll (cwOf cels) (cnOf cels)).map (pinB Sc Sn))) = Sc := stIn_cur HV1.out.2
            rw [← hS0] at st
            have kdd := (Keep.refl w8).drew
            obtain ⟨s0, s1, -⟩ := (st.keep kdd).fs
            have kx := HK58.out
            have HFX := Hid.mk (HF7.out)
            have HSTX := Hid.mk (HS8.out)
            have sysx := HS5.out.keep kx
            go_upto_region 16 with fail
            refine y16_c 0 gS 0 ga g7 afl.length acap k 0 0 0 0 0 0 0 0 _ capx 0 0 none none cx none f _ false _ rfl rfl rfl rfl rfl (sysx.ar.drew.cell 7) s0 s1 hlt (fun x Z => ∃ a c, x = .agg #[.slice a (exF cels (body.toL.take k) (S0 cels (inpF ((pinAll (cwOf cels) (cnOf cels)).map (pinB Sc Sn))))).cells.length c, .bool (exF cels (body.toL.take k) (S0 cels (inpF ((pinAll (cwOf cels) (cnOf cels)).map (pinB Sc Sn))))).fault] ∧ Vs Z (.slice a (exF cels (body.toL.take k) (S0 cels (inpF ((pinAll (cwOf cels) (cnOf cels)).map (pinB Sc Sn))))).cells.length c) (exF cels (body.toL.take k) (S0 cels (inpF ((pinAll (cwOf cels) (cnOf cels)).map (pinB Sc Sn))))).cells) ?_ ?_ ?_
            · intro Z kz
              have sZ := sysx.keep (kdd.trans kz)
              have lcw : (cwOf cels).length = cels.length := by simp [cwOf]
              have hAz := ((HAA.out.1.keep HK5.out).keep kx).keep (kdd.trans kz)
              have x0 := (hAz.cell (k * 2 + 0)).trans (flat_take_get (fmC_len cels.length) HAA.out.2.2.2.2 k 0 hlt (by decide))
              have x1 := (hAz.cell (k * 2 + 1)).trans (flat_take_get (fmC_len cels.length) HAA.out.2.2.2.2 k 1 hlt (by decide))
              refine (value_c (gF := ga) (oF := k * 2) (sZ.aft k hlt) sZ.wf (by rw [lcw]; exact x0) x1 (Sl.keep HV.out (kx.trans (kdd.trans kz))) HOK.out.cw.1 (by rw [lcw]; exact HTK.out.cl)).mono ?_
              rintro e w' ⟨⟨v, rfl, ow⟩, kk⟩
              obtain ⟨a, c, rfl, hv⟩ := own_vs ow
              exact ⟨_, rfl, ⟨a, c, rfl, hv⟩, kk⟩
            · rintro Z x kz ⟨a, c, rfl, hv⟩
              refine (same_t hv (Sl.keep (st.keep kdd).vs kz) ?_).mono ?_
              · have h2 := (sysx.aft k hlt).sl (inpF ((pinAll (cwOf cels) (cnOf cels)).map (pinB Sc Sn)))
                have lcw : (cwOf cels).length = cels.length := by simp [cwOf]
                rw [h2, lcw]
                exact HTK.out.cl
              · rintro e w' ⟨he, kk⟩
                exact ⟨he, kk⟩
            · intro vs16 w9 e2 k9
              simp only [Lmx, y16T, List.filterMap_cons, List.filterMap_nil, ment, Option.map_some, Option.map_none, mval, e2, Option.getD_some, lay, List.foldl_cons, List.foldl_nil]
              simp only [put_litx, List.set_cons_succ, List.set_cons_zero]
              have HK9 := Hid.mk (kdd.trans k9)
              clear st hS0 kdd s0 s1 kx sysx e2 k9
              go_wp2_with fail
              go_roundg (gk - 1)
              case measure => have := HKK.out; omega
              case rel => exact ⟨k + 1, by have := HKK.out; omega, by go_num, HFX.out.trans (Fr.keep HK9.out), by rw [Nat.add_sub_cancel]; exact HSTX.out.keep HK9.out⟩
        · have j1 : ¬ (k : Int) < afl.length := by omega
          obtain rfl : k = afl.length := by have := HKK.out; omega
          have hS : exF cels (body.toL.take (afl.length - 1)) Sc = exL (cwOf cels) body (S0 cels (inpF ((pinAll (cwOf cels) (cnOf cels)).map (pinB Sc Sn)))) := by
            have h1 : S0 cels (inpF ((pinAll (cwOf cels) (cnOf cels)).map (pinB Sc Sn))) = Sc := stIn_cur HV1.out.2
            rw [h1, exL_fold, HAL.out, Nat.add_sub_cancel]
            show exF cels (body.toL.take body.toL.length) Sc = _
            rw [List.take_length]
            rfl
          have st := HSTR.out
          rw [hS] at st
          have kdd := (Keep.refl wr).drew
          obtain ⟨s0, s1, -⟩ := (st.keep kdd).fs
          go_upto_region 19 with fail
          refine y19_c 0 gS 0 0 g7 0 0 0 0 0 0 0 0 0 0 0 _ capx 0 0 none none cx none f _ false _ rfl rfl rfl rfl s0 s1 (fun x Z => ∃ a c, x = .agg #[.slice a (exL (cwOf cels) body (S0 cels (inpF ((pinAll (cwOf cels) (cnOf cels)).map (pinB Sc Sn))))).cells.length c, .bool (exL (cwOf cels) body (S0 cels (inpF ((pinAll (cwOf cels) (cnOf cels)).map (pinB Sc Sn))))).fault] ∧ Vs Z (.slice a (exL (cwOf cels) body (S0 cels (inpF ((pinAll (cwOf cels) (cnOf cels)).map (pinB Sc Sn))))).cells.length c) (exL (cwOf cels) body (S0 cels (inpF ((pinAll (cwOf cels) (cnOf cels)).map (pinB Sc Sn))))).cells) ?_ ?_ ?_
          · intro Z kz
            have sZ := HSYR.out.keep (kdd.trans kz)
            have lcw : (cwOf cels).length = cels.length := by simp [cwOf]
            refine (value_c (gF := gS) (oF := 5) sZ.stp sZ.wf (by rw [lcw]; exact sZ.ar.cell 5) (sZ.ar.cell 6) (Sl.keep HVR.out (kdd.trans kz)) HOK.out.cw.1 (by rw [lcw]; exact HTK.out.cl)).mono ?_
            rintro e w' ⟨⟨v, rfl, ow⟩, k⟩
            obtain ⟨a, c, rfl, hv⟩ := own_vs ow
            exact ⟨_, rfl, ⟨a, c, rfl, hv⟩, k⟩
          · rintro Z x kz ⟨a, c, rfl, hv⟩
            refine (same_t hv (Sl.keep (st.keep kdd).vs kz) ?_).mono ?_
            · have h1 := st.st.lt
              have h2 := (HSYR.out.stp.sl (inpF ((pinAll (cwOf cels) (cnOf cels)).map (pinB Sc Sn))))
              have h3 := HTK.out.cl
              have lcw : (cwOf cels).length = cels.length := by simp [cwOf]
              rw [h2, lcw]
              exact h3
            · rintro e w' ⟨he, k⟩
              exact ⟨he, k⟩
          · intro vs19 w9 e2 k9
            simp only [Lmx, y19T, List.filterMap_cons, List.filterMap_nil, ment, Option.map_some, Option.map_none, mval, e2, Option.getD_some, lay, List.foldl_cons, List.foldl_nil]
            simp only [put_litx, List.set_cons_succ, List.set_cons_zero]
            go_wp2_with fail
            go_ret
            exact ⟨rfl, (((HK1.out.trans HKA.out).trans HKR.out).trans kdd).trans k9⟩
    · have e1 : (((er : Nat) : Int) != 0) = true := by simp; omega
      go_wp2_with fail
      go_ret
      exact ⟨rfl, HK1.out.trans HK2.out⟩
  · have hd : decide (sc.length ≤ 65536) = false := decide_eq_false hsm
    rw [hd] at SM
    clear hs hd hsm EX
    go_enter Try.func3, Try.ntmps3
    go_wp2_with fail
    refine SM.out.mono ?_
    rintro e y ⟨rfl, hy⟩
    have hy2 := hy.symm
    clear hy
    subst hy2
    go_wp2_with fail
    go_ret
    exact ⟨rfl, Keep.refl _⟩
end Go.Proofs.Qxb6500772a
