/- corem: checkExpr. -/
import Derived.Test.Qxb6500772aTe
import Derived.BigQuiet
namespace Go.Proofs.Qxb6500772a
open Go.RowKit Go.Qm
set_option linter.unusedVariables false
set_option linter.unusedSimpArgs false
attribute [local go_sem ↓] Go.wp_at_zero Go.wp_at_succ
set_option maxRecDepth 4000 in
set_option maxHeartbeats 8000000 in
theorem checkExpr_n {P : Nat → Prop} {cs : List Cel} (hcl : cs.length ≤ 1000000) (fb : EF) : ∀ (N : Nat) (f : EF) (t : EL), t.size = N → ∀ (w : World) (cv bv kb v : Value) (rows : List (List Value)), CsW P w cv cs → isSl bv → isSl kb → EFr f → Rows P w v 7 rows → ELW P w t rows → Calls Try.prog 58 #[prA cv bv fb kb, efA f v] w fun e w' => e = .returned (.int .i64 ((ckX cs (f, t) : Nat) : Int)) ∧ Keep w w' := by
  intro N
  induction N using Nat.strongRecOn with
  | _ N ih =>
    intro f t hN w cv bv kb v rows hc hb hkb hf hr he
    have HB0 := Hid.mk hb
    have HKB0 := Hid.mk hkb
    obtain ⟨ba, bn, bc, rfl⟩ := hb
    obtain ⟨ka, kn, kc, rfl⟩ := hkb
    obtain ⟨ca, cc, hcv, cv1, cv2⟩ := hc.form
    subst hcv
    have hlen := he.len
    obtain ⟨va, vc, hv, v1, v2⟩ := hr.form
    rw [hlen] at hv v1
    subst hv
    unfold maxLen at v2 cv2
    have HC := Hid.mk hc
    have HR := Hid.mk hr
    have HE := Hid.mk he
    have HF := Hid.mk hf
    have HLEN := Hid.mk hlen
    have HIH : Hid (∀ x ∈ t.toL, EFr x.1 → ∀ (W : World) (v : Value) (rows : List (List Value)), Keep w W → Rows P W v 7 rows → ELW P W x.2 rows → Calls Try.prog 58 #[prA (.slice ca cs.length cc) (.slice ba bn bc) fb (.slice ka kn kc), efA x.1 v] W fun e w' => e = .returned (.int .i64 ((ckX cs x : Nat) : Int)) ∧ Keep W w') := Hid.mk (fun x hx hx1 W v rows kk h1 h2 => ih x.2.size (by rw [← hN]; exact EL.mem_size hx) x.1 x.2 rfl W _ _ _ v rows (HC.out.step (KP.of kk)) HB0.out HKB0.out hx1 h1 h2)
    have CEL : Hid (∀ W, Keep w W → ∀ (c n wd : Int), I64 c → I64 n → Calls Try.prog 85 #[prA (.slice ca cs.length cc) (.slice ba bn bc) fb (.slice ka kn kc), .int .i64 c, .int .i64 n, .int .i64 wd, .bool false] W fun e w' => e = .returned (.int .i64 ((cellsF cs c n wd false : Nat) : Int)) ∧ Keep W w') := Hid.mk (fun W kk c n wd h1 h2 => cells_c (HC.out.step (KP.of kk)) HB0.out fb HKB0.out c n wd false h1 h2 hcl)
    have HX : Hid (ckX cs (f, t) = if firstNZ (t.toL.map (ckX cs)) = 0 then ckOwn cs f t.ws else firstNZ (t.toL.map (ckX cs))) := Hid.mk (by rw [ckX, ckX', ← ckL_first])
    generalize ckX cs (f, t) = res at *
    unfold EL.len at *
    have hli : (t.toL.length : Int) ≤ 9223372036854775807 := by omega
    clear hc hf hr he hlen ih hN
    simp only [prA, efA] at *
    obtain ⟨W, hW⟩ : ∃ W, W = (w.alloc (.cells #[.slice ca cs.length cc, .slice ba bn bc, .int .i64 fb.k, .int .i64 fb.w, .int .i64 fb.o, .int .u64 (fb.v : Nat), .int .i64 fb.c, .int .i64 fb.l, .slice ka kn kc] 33)).alloc (.cells #[.int .i64 f.k, .int .i64 f.w, .int .i64 f.o, .int .u64 (f.v : Nat), .int .i64 f.c, .int .i64 f.l, .slice va t.toL.length vc] 31) := ⟨_, rfl⟩
    have kW : Keep w W := by rw [hW]; exact ((Keep.refl w).alloc _).alloc _
    have aP : Arr W w.heap.size 33 (PrC (.slice ca cs.length cc) (.slice ba bn bc) fb (.slice ka kn kc)) := by rw [hW]; exact (Arr.new w 33 _).keep ((Keep.refl _).alloc _)
    have aE : Arr W (w.heap.size + 1) 31 (EfC f (.slice va t.toL.length vc)) := by
      rw [hW]
      have := Arr.new (w.alloc (.cells #[.slice ca cs.length cc, .slice ba bn bc, .int .i64 fb.k, .int .i64 fb.w, .int .i64 fb.o, .int .u64 (fb.v : Nat), .int .i64 fb.c, .int .i64 fb.l, .slice ka kn kc] 33)) 31 (EfC f (.slice va t.toL.length vc))
      have e : (w.alloc (.cells #[.slice ca cs.length cc, .slice ba bn bc, .int .i64 fb.k, .int .i64 fb.w, .int .i64 fb.o, .int .u64 (fb.v : Nat), .int .i64 fb.c, .int .i64 fb.l, .slice ka kn kc] 33)).heap.size = w.heap.size + 1 := by simp
      rw [e] at this
      exact this
    have HKW := Hid.mk kW
    have HAP := Hid.mk aP
    have HAE := Hid.mk aE
    obtain ⟨d0, d1, d2, d3, d4, d5, d6, d7, d8⟩ := prC_cells aP
    obtain ⟨e0, e1, e2, e3, e4, e5, e6⟩ := efC_cells aE
    clear kW aP aE
    go_enter Try.func58, Try.ntmps58
    go_upto_region 1 with fail
    rw [← hW]
    generalize w.heap.size + 1 = gE at *
    generalize w.heap.size = gP at *
    clear hW
    go_wp2_with fail
    go_loopg [6, 7, 13] t.toL.length (fun gk v6 v7 v13 wr => ∃ (k : Nat), k + gk = t.toL.length ∧ v13 = .int .i64 k ∧ Keep W wr ∧ firstNZ (t.toL.map (ckX cs)) = firstNZ ((t.toL.map (ckX cs)).drop k))
    case atStart => exact ⟨0, by omega, rfl, Keep.refl W, rfl⟩
    case round =>
      obtain ⟨k, hk, rfl, kp, hG⟩ := hrel
      have HK := Hid.mk hk
      have HKP := Hid.mk kp
      have HG := Hid.mk hG
      by_cases hlt : k < t.toL.length
      · have j1 : (k : Int) < t.toL.length := by omega
        have j2 : (0 : Int) ≤ k := by omega
        have hrl : k < rows.length := by rw [HLEN.out]; exact hlt
        obtain ⟨xv, xr, x1, x2, x3, x4⟩ := (HE.out.step (KP.of (HKW.out.trans kp))).get k hlt hrl
        obtain ⟨b, o, ha, -, -, hc⟩ := (HR.out.step (KP.of (HKW.out.trans kp))).cell hrl
        subst ha
        have c0 := hc 0 (by decide)
        have c1 := hc 1 (by decide)
        have c2 := hc 2 (by decide)
        have c3 := hc 3 (by decide)
        have c4 := hc 4 (by decide)
        have c5 := hc 5 (by decide)
        have c6 := hc 6 (by decide)
        rw [x1] at c0 c1 c2 c3 c4 c5 c6
        simp only [efC, List.getElem?_cons_zero, List.getElem?_cons_succ, Nat.add_zero] at c0 c1 c2 c3 c4 c5 c6
        have HSL := x3
        obtain ⟨xa, xc, hxv, xv1, xv2⟩ := x3.form
        subst hxv
        have HSUB : Hid ((t.toL.map (ckX cs)).drop k = ckX cs t.toL[k] :: (t.toL.map (ckX cs)).drop (k + 1)) := Hid.mk (by
          rw [List.drop_eq_getElem_cons (by simpa using hlt)]; simp)
        have IH2 := fun V (kk : Keep wr V) => HIH.out t.toL[k] (List.getElem_mem hlt) x2 V _ _ (HKW.out.trans (kp.trans kk)) (x3.step (KP.of kk)) (x4.step (KP.of kk))
        have HI2 := Hid.mk IH2
        obtain ⟨d0, d1, d2, d3, d4, d5, d6, d7, d8⟩ := prC_cells (HAP.out.keep kp)
        have hPW : gP < wr.heap.size := (HAP.out.keep kp).lt
        generalize t.toL[k] = x at *
        obtain ⟨g, xk⟩ := x
        simp only at *
        generalize hrx : ckX cs (g, xk) = rx at *
        clear hc x1 x2 x3 x4 IH2 hk kp hG hrl hrx HSL e0 e1 e2 e3 e4 e5 e6
        go_upto_region 4 with fail
        obtain ⟨V, hV⟩ : ∃ V, V = wr.alloc (.cells #[.int .i64 g.k, .int .i64 g.w, .int .i64 g.o, .int .u64 (g.v : Nat), .int .i64 g.c, .int .i64 g.l, .slice xa xr.length xc] 31) := ⟨_, rfl⟩
        rw [← hV]
        have kV : Keep wr V := by rw [hV]; exact (Keep.refl wr).alloc _
        have aV : Arr V wr.heap.size 31 (EfC g (.slice xa xr.length xc)) := by rw [hV]; exact Arr.new wr 31 _
        have IH3 := HI2.out V kV
        have HKV := Hid.mk (HKP.out.trans kV)
        obtain ⟨d0, d1, d2, d3, d4, d5, d6, d7, d8⟩ := prC_cells (HAP.out.keep HKV.out)
        obtain ⟨q0, q1, q2, q3, q4, q5, q6⟩ := efC_cells aV
        generalize wr.heap.size = gQ at *
        clear hV kV aV c0 c1 c2 c3 c4 c5 c6
        go_wp2_with fail
        refine IH3.mono ?_
        rintro e w2 ⟨rfl, k2⟩
        have HK2 := Hid.mk (HKV.out.trans k2)
        have HFN : Hid (firstNZ (rx :: (t.toL.map (ckX cs)).drop (k + 1)) = if rx = 0 then firstNZ ((t.toL.map (ckX cs)).drop (k + 1)) else rx) := Hid.mk rfl
        clear k2 IH3 q0 q1 q2 q3 q4 q5 q6 d0 d1 d2 d3 d4 d5 d6 d7 d8
        by_cases z : rx = 0
        · subst z
          rw [if_pos rfl] at HFN
          go_wp2_with fail
          go_roundg (gk - 1)
          case measure => have := HK.out; omega
          case rel => exact ⟨k + 1, by have := HK.out; omega, by go_num, HK2.out, by rw [HG.out, HSUB.out, HFN.out]⟩
        · rw [if_neg z] at HFN
          have z2 : ((rx : Int) == 0) = false := by simp; omega
          have z3 : ((rx : Int) != 0) = true := by simp; omega
          have HZ := Hid.mk z
          clear z
          go_wp2_with fail
          go_ret
          refine ⟨?_, HKW.out.trans HK2.out⟩
          rw [HX.out, HG.out, HSUB.out, HFN.out, if_neg HZ.out]
          rfl
      · have j1 : ¬ (k : Int) < t.toL.length := by omega
        obtain rfl : k = t.toL.length := by omega
        have hz : firstNZ (t.toL.map (ckX cs)) = 0 := by rw [hG, List.drop_of_length_le (by simp)]; rfl
        rw [if_pos hz] at HX
        obtain ⟨d0, d1, d2, d3, d4, d5, d6, d7, d8⟩ := prC_cells (HAP.out.keep kp)
        obtain ⟨e0, e1, e2, e3, e4, e5, e6⟩ := efC_cells (HAE.out.keep kp)
        have HKR := Hid.mk (HKW.out.trans kp)
        have HWL : Hid (t.ws.length = t.toL.length) := Hid.mk (by simp [EL.ws])
        have KID : Hid (∀ i (hi : i < t.toL.length), ∃ b o, va = some ⟨b, o, none⟩ ∧ wr.cell? ⟨b, o + i * 7 + 1, none⟩ = some (.int .i64 (t.ws.getD i 0))) := Hid.mk (fun i hi => by
          have hrl : i < rows.length := by rw [HLEN.out]; exact hi
          obtain ⟨xv, xr, x1, x2, x3, x4⟩ := (HE.out.step (KP.of HKR.out)).get i hi hrl
          obtain ⟨b, o, ha, -, -, hc⟩ := (HR.out.step (KP.of HKR.out)).cell hrl
          refine ⟨b, o, ha, ?_⟩
          rw [hc 1 (by decide), x1]
          simp [efC, EL.ws, List.getD_eq_getElem?_getD, hi])
        have CEL2 : Hid (∀ (c n wd : Int), I64 c → I64 n → Calls Try.prog 85 #[.agg #[.slice ca cs.length cc, .slice ba bn bc, .int .i64 fb.k, .int .i64 fb.w, .int .i64 fb.o, .int .u64 (fb.v : Nat), .int .i64 fb.c, .int .i64 fb.l, .slice ka kn kc], .int .i64 c, .int .i64 n, .int .i64 wd, .bool false] wr fun e w' => e = .returned (.int .i64 ((cellsF cs c n wd false : Nat) : Int)) ∧ Keep wr w') := Hid.mk (fun c n wd h1 h2 => CEL.out wr HKR.out c n wd h1 h2)
        clear hk kp hG hz HG CEL HIH
        have hlz : Hid (t.toL.length = 0 ↔ t.ws = []) := Hid.mk (by rw [← HWL.out]; exact List.length_eq_zero_iff)
        generalize t.ws = ks at *
        generalize t.toL.length = n at *
        obtain ⟨fk, fw, fo, fv, fc, fl⟩ := f
        obtain ⟨r1, r2, r3, r4, r5, r6⟩ := HF.out
        simp only at *
        by_cases hw : fw < 1 ∨ 64 < fw
        · have HO := Hid.mk (ckO_w (cs := cs) (f := ⟨fk, fw, fo, fv, fc, fl⟩) (ks := ks) hw)
          rw [HO.out] at HX
          rcases hw with hw | hw
          · go_wp2_with fail
            go_ret
            exact ⟨by rw [HX.out]; rfl, HKR.out⟩
          · have hw3 : ¬ fw < 1 := by omega
            go_wp2_with fail
            go_ret
            exact ⟨by rw [HX.out]; rfl, HKR.out⟩
        · have w1 : 1 ≤ fw := by omega
          have w2 : fw ≤ 64 := by omega
          have HW := Hid.mk hw
          clear hw
          by_cases k0 : fk = 0
          · subst k0
            rw [ckO_0 HW.out rfl] at HX
            obtain ⟨wd, rfl⟩ : ∃ wd : Nat, fw = wd := ⟨fw.toNat, by omega⟩
            by_cases n0 : n = 0
            · rw [if_pos (hlz.out.1 n0)] at HX
              subst n0
              have FC := fits_c fv wd r4 (by omega) wr
              have HD : Hid (decide (fv < 2 ^ wd) = decide (fv < 2 ^ (wd : Int).toNat)) := Hid.mk rfl
              by_cases hv : fv < 2 ^ wd
              · rw [decide_eq_true hv] at FC
                rw [if_pos (show fv < 2 ^ (wd : Int).toNat from hv)] at HX
                clear hv HD r4
                go_wp2_with fail
                refine FC.mono ?_
                rintro e y ⟨rfl, hy⟩
                subst hy
                go_wp2_with fail
                go_ret
                exact ⟨by rw [HX.out]; rfl, HKR.out⟩
              · rw [decide_eq_false hv] at FC
                rw [if_neg (show ¬ fv < 2 ^ (wd : Int).toNat from hv)] at HX
                clear hv HD r4
                go_wp2_with fail
                refine FC.mono ?_
                rintro e y ⟨rfl, hy⟩
                subst hy
                go_wp2_with fail
                go_ret
                exact ⟨by rw [HX.out]; rfl, HKR.out⟩
            · rw [if_neg (fun a => n0 (hlz.out.2 a))] at HX
              have n1 : ((n : Int) == 0) = false := by simp; omega
              clear n0 r4
              go_wp2_with fail
              go_ret
              exact ⟨by rw [HX.out]; rfl, HKR.out⟩
          · by_cases k1 : fk = 1
            · subst k1
              rw [ckO_1 HW.out rfl] at HX
              by_cases n0 : n = 0
              · rw [if_pos (hlz.out.1 n0)] at HX
                subst n0
                clear r4
                have FC := CEL2.out fc 1 fw r5 ⟨by decide, by decide⟩
                go_wp2_with fail
                refine FC.mono ?_
                rintro e w2 ⟨rfl, k2⟩
                have HK2 := Hid.mk k2
                clear k2 FC
                go_wp2_with fail
                go_ret
                exact ⟨by rw [HX.out]; rfl, HKR.out.trans HK2.out⟩
              · rw [if_neg (fun a => n0 (hlz.out.2 a))] at HX
                have n1 : ((n : Int) == 0) = false := by simp; omega
                clear n0 r4
                go_wp2_with fail
                go_ret
                exact ⟨by rw [HX.out]; rfl, HKR.out⟩
            · by_cases k2 : fk = 2
              · subst k2
                rw [ckO_2 HW.out rfl] at HX
                clear r4
                by_cases n0 : n = 0
                · rw [if_pos (hlz.out.1 n0)] at HX
                  subst n0
                  by_cases fw1 : fw = 1
                  · subst fw1
                    rw [if_pos rfl] at HX
                    go_wp2_with fail
                    go_ret
                    exact ⟨by rw [HX.out]; rfl, HKR.out⟩
                  · rw [if_neg fw1] at HX
                    have fw2 : (fw == 1) = false := by simpa using fw1
                    clear fw1
                    go_wp2_with fail
                    go_ret
                    exact ⟨by rw [HX.out]; rfl, HKR.out⟩
                · rw [if_neg (fun a => n0 (hlz.out.2 a))] at HX
                  have n1 : ((n : Int) == 0) = false := by simp; omega
                  clear n0
                  go_wp2_with fail
                  go_ret
                  exact ⟨by rw [HX.out]; rfl, HKR.out⟩
              · by_cases k3 : fk = 3
                · subst k3
                  rw [ckO_3 HW.out rfl, HWL.out] at HX
                  clear r4
                  by_cases n0 : n = 1
                  · rw [if_pos n0] at HX
                    subst n0
                    have FC := CEL2.out fc fl fw r5 r6
                    go_wp2_with fail
                    refine FC.mono ?_
                    rintro e w2 ⟨rfl, k2⟩
                    have HK2 := Hid.mk k2
                    clear k2 FC
                    go_wp2_with fail
                    go_ret
                    exact ⟨by rw [HX.out]; rfl, HKR.out.trans HK2.out⟩
                  · rw [if_neg n0] at HX
                    have n1 : ((n : Int) == 1) = false := by simp; omega
                    clear n0
                    go_wp2_with fail
                    go_ret
                    exact ⟨by rw [HX.out]; rfl, HKR.out⟩
                · by_cases k4 : fk = 4
                  · subst k4
                    rw [ckO_4 HW.out rfl, HWL.out] at HX
                    clear r4
                    by_cases n0 : n = 1
                    · rw [if_pos n0] at HX
                      subst n0
                      obtain ⟨b, o, ha, hc⟩ := KID.out 0 (by decide)
                      subst ha
                      simp only [Nat.zero_mul, Nat.add_zero] at hc
                      generalize ks.getD 0 0 = a at *
                      have HU : Hid (unOK fo a fw = ((decide (fo = 0) || decide (fo = 1)) && decide (a = fw) || ((decide (fo = 2) || decide (fo = 3)) && decide (a ≤ fw) || decide (fo = 4) && decide (fw ≤ a)))) := Hid.mk rfl
                      by_cases o01 : fo = 0 ∨ fo = 1
                      · by_cases afw : a = fw
                        · subst afw
                          rw [if_pos (by rw [HU.out]; rcases o01 with rfl | rfl <;> simp)] at HX
                          rcases o01 with rfl | rfl
                          · go_wp2_with fail
                            go_ret
                            exact ⟨by rw [HX.out]; rfl, HKR.out⟩
                          · go_wp2_with fail
                            go_ret
                            exact ⟨by rw [HX.out]; rfl, HKR.out⟩
                        · rw [if_neg (by rw [HU.out]; rcases o01 with rfl | rfl <;> simp [afw])] at HX
                          have af2 : (a == fw) = false := by simpa using afw
                          clear afw
                          rcases o01 with rfl | rfl
                          · go_wp2_with fail
                            go_ret
                            exact ⟨by rw [HX.out]; rfl, HKR.out⟩
                          · go_wp2_with fail
                            go_ret
                            exact ⟨by rw [HX.out]; rfl, HKR.out⟩
                      · have p0 : (fo == 0) = false := by simp; omega
                        have p1 : (fo == 1) = false := by simp; omega
                        by_cases o23 : fo = 2 ∨ fo = 3
                        · by_cases afw : a ≤ fw
                          · rw [if_pos (by rw [HU.out]; rcases o23 with rfl | rfl <;> simp [afw])] at HX
                            clear o01
                            rcases o23 with rfl | rfl
                            · go_wp2_with fail
                              go_ret
                              exact ⟨by rw [HX.out]; rfl, HKR.out⟩
                            · go_wp2_with fail
                              go_ret
                              exact ⟨by rw [HX.out]; rfl, HKR.out⟩
                          · rw [if_neg (by rw [HU.out]; rcases o23 with rfl | rfl <;> simp [afw])] at HX
                            clear o01
                            have af2 : fw < a := by omega
                            have af3 : decide (a ≤ fw) = false := by simp; omega
                            clear afw
                            rcases o23 with rfl | rfl
                            · go_wp2_with fail
                              go_ret
                              exact ⟨by rw [HX.out]; rfl, HKR.out⟩
                            · go_wp2_with fail
                              go_ret
                              exact ⟨by rw [HX.out]; rfl, HKR.out⟩
                        · have p2 : (fo == 2) = false := by simp; omega
                          have p3 : (fo == 3) = false := by simp; omega
                          by_cases o4 : fo = 4
                          · subst o4
                            by_cases afw : fw ≤ a
                            · rw [if_pos (by rw [HU.out]; simp [afw])] at HX
                              clear o01 o23 p0 p1 p2 p3
                              go_wp2_with fail
                              go_ret
                              exact ⟨by rw [HX.out]; rfl, HKR.out⟩
                            · rw [if_neg (by rw [HU.out]; simp [afw])] at HX
                              clear o01 o23 p0 p1 p2 p3
                              have af2 : a < fw := by omega
                              have af3 : decide (fw ≤ a) = false := by simp; omega
                              clear afw
                              go_wp2_with fail
                              go_ret
                              exact ⟨by rw [HX.out]; rfl, HKR.out⟩
                          · rw [if_neg (by rw [HU.out]; simp; omega)] at HX
                            have p4 : (fo == 4) = false := by simpa using o4
                            clear o01 o23 o4
                            go_wp2_with fail
                            go_ret
                            exact ⟨by rw [HX.out]; rfl, HKR.out⟩
                    · rw [if_neg n0] at HX
                      have n1 : ((n : Int) == 1) = false := by simp; omega
                      clear n0
                      go_wp2_with fail
                      go_ret
                      exact ⟨by rw [HX.out]; rfl, HKR.out⟩
                  · by_cases k6 : fk = 6
                    · subst k6
                      rw [ckO_6 HW.out rfl, HWL.out] at HX
                      clear r4
                      by_cases n0 : n = 3
                      · rw [if_pos n0] at HX
                        subst n0
                        obtain ⟨b, o, ha, hc⟩ := KID.out 0 (by decide)
                        subst ha
                        obtain ⟨b', o', ha', hc'⟩ := KID.out 1 (by decide)
                        obtain ⟨rfl, rfl⟩ : b = b' ∧ o = o' := by simpa using ha'
                        obtain ⟨b', o', ha'', hc''⟩ := KID.out 2 (by decide)
                        obtain ⟨rfl, rfl⟩ : b = b' ∧ o = o' := by simpa using ha''
                        simp only [Nat.zero_mul, Nat.one_mul, Nat.add_zero, Nat.reduceMul] at hc hc' hc''
                        clear ha' ha''
                        generalize ks.getD 0 0 = a at *
                        generalize ks.getD 1 0 = a' at *
                        generalize ks.getD 2 0 = a'' at *
                        by_cases z0 : a = 1
                        · subst z0
                          rw [if_pos rfl] at HX
                          by_cases z1 : a' = fw
                          · subst z1
                            rw [if_pos rfl] at HX
                            by_cases z2 : a'' = a'
                            · subst z2
                              rw [if_pos rfl] at HX
                              go_wp2_with fail
                              go_quiet (fail)
                              go_wp2_with fail
                              go_ret
                              exact ⟨by rw [HX.out]; rfl, HKR.out.drewN _⟩
                            · rw [if_neg z2] at HX
                              have z3 : (a'' == a') = false := by simpa using z2
                              clear z2
                              go_wp2_with fail
                              go_quiet (fail)
                              go_wp2_with fail
                              go_ret
                              exact ⟨by rw [HX.out]; rfl, HKR.out.drewN _⟩
                          · rw [if_neg z1] at HX
                            have z3 : (a' == fw) = false := by simpa using z1
                            clear z1
                            go_wp2_with fail
                            go_quiet (fail)
                            go_wp2_with fail
                            go_ret
                            exact ⟨by rw [HX.out]; rfl, HKR.out.drewN _⟩
                        · rw [if_neg z0] at HX
                          have z3 : (a == 1) = false := by simpa using z0
                          clear z0
                          go_wp2_with fail
                          go_quiet (fail)
                          go_wp2_with fail
                          go_ret
                          exact ⟨by rw [HX.out]; rfl, HKR.out.drewN _⟩
                      · rw [if_neg n0] at HX
                        have n1 : ((n : Int) == 3) = false := by simp; omega
                        clear n0
                        go_wp2_with fail
                        go_quiet (fail)
                        go_wp2_with fail
                        go_ret
                        exact ⟨by rw [HX.out]; rfl, HKR.out.drewN _⟩
                    · by_cases k5 : fk = 5
                      · subst k5
                        rw [ckO_5 HW.out rfl, HWL.out] at HX
                        clear r4
                        by_cases n0 : n = 2
                        · rw [if_pos n0] at HX
                          subst n0
                          obtain ⟨b, o, ha, hc⟩ := KID.out 0 (by decide)
                          subst ha
                          obtain ⟨b', o', ha', hc'⟩ := KID.out 1 (by decide)
                          obtain ⟨rfl, rfl⟩ : b = b' ∧ o = o' := by simpa using ha'
                          simp only [Nat.zero_mul, Nat.one_mul, Nat.add_zero, Nat.reduceMul] at hc hc'
                          clear ha'
                          generalize ks.getD 0 0 = a at *
                          generalize ks.getD 1 0 = a' at *
                          have HB : Hid (binOK fo a fw = if 5 ≤ fo ∧ fo ≤ 12 then decide (fw = a) else if 13 ≤ fo ∧ fo ≤ 18 then decide (fw = 1) else false) := Hid.mk rfl
                          by_cases z0 : a = a'
                          · subst z0
                            rw [if_pos rfl, HB.out] at HX
                            by_cases o1 : 5 ≤ fo ∧ fo ≤ 12
                            · rw [if_pos o1] at HX
                              obtain ⟨o1a, o1b⟩ := o1
                              have o2 : fo < 13 := by omega
                              have o3 : ¬ (13 ≤ fo) := by omega
                              by_cases z1 : fw = a
                              · subst z1
                                rw [if_pos (by simp)] at HX
                                go_wp2_with fail
                                go_quiet (fail)
                                go_wp2_with fail
                                go_quiet (fail)
                                go_wp2_with fail
                                go_ret
                                exact ⟨by rw [HX.out]; rfl, HKR.out.drewN _⟩
                              · rw [if_neg (by simpa using z1)] at HX
                                have z3 : (fw == a) = false := by simpa using z1
                                clear z1
                                go_wp2_with fail
                                go_quiet (fail)
                                go_wp2_with fail
                                go_quiet (fail)
                                go_wp2_with fail
                                go_ret
                                exact ⟨by rw [HX.out]; rfl, HKR.out.drewN _⟩
                            · rw [if_neg o1] at HX
                              by_cases o4 : 13 ≤ fo ∧ fo ≤ 18
                              · rw [if_pos o4] at HX
                                obtain ⟨o4a, o4b⟩ := o4
                                have o5 : 5 ≤ fo := by omega
                                have o6 : ¬ fo ≤ 12 := by omega
                                by_cases z1 : fw = 1
                                · subst z1
                                  rw [if_pos (by simp)] at HX
                                  clear o1
                                  go_wp2_with fail
                                  go_quiet (fail)
                                  go_wp2_with fail
                                  go_ret
                                  exact ⟨by rw [HX.out]; rfl, HKR.out.drewN _⟩
                                · rw [if_neg (by simpa using z1)] at HX
                                  have z3 : (fw == 1) = false := by simpa using z1
                                  clear z1 o1
                                  go_wp2_with fail
                                  go_quiet (fail)
                                  go_wp2_with fail
                                  go_ret
                                  exact ⟨by rw [HX.out]; rfl, HKR.out.drewN _⟩
                              · rw [if_neg o4, if_neg (by simp)] at HX
                                by_cases o7 : fo < 5
                                · have o8 : ¬ 13 ≤ fo := by omega
                                  clear o1 o4
                                  go_wp2_with fail
                                  go_quiet (fail)
                                  go_wp2_with fail
                                  go_ret
                                  exact ⟨by rw [HX.out]; rfl, HKR.out.drewN _⟩
                                · have o8 : 18 < fo := by omega
                                  have o9 : 5 ≤ fo := by omega
                                  have o10 : ¬ fo ≤ 12 := by omega
                                  have o11 : 13 ≤ fo := by omega
                                  have o12 : ¬ fo ≤ 18 := by omega
                                  clear o1 o4 o7
                                  go_wp2_with fail
                                  go_quiet (fail)
                                  go_wp2_with fail
                                  go_ret
                                  exact ⟨by rw [HX.out]; rfl, HKR.out.drewN _⟩
                          · rw [if_neg z0] at HX
                            have z3 : (a == a') = false := by simpa using z0
                            clear z0
                            go_wp2_with fail
                            go_quiet (fail)
                            go_wp2_with fail
                            go_ret
                            exact ⟨by rw [HX.out]; rfl, HKR.out.drewN _⟩
                        · rw [if_neg n0] at HX
                          have n1 : ((n : Int) == 2) = false := by simp; omega
                          clear n0
                          go_wp2_with fail
                          go_quiet (fail)
                          go_wp2_with fail
                          go_ret
                          exact ⟨by rw [HX.out]; rfl, HKR.out.drewN _⟩
                      · rw [ckO_7 HW.out k0 k1 k2 k3 k4 k5 k6] at HX
                        have m0 : (fk == 0) = false := by simpa using k0
                        have m1 : (fk == 1) = false := by simpa using k1
                        have m2 : (fk == 2) = false := by simpa using k2
                        have m3 : (fk == 3) = false := by simpa using k3
                        have m4 : (fk == 4) = false := by simpa using k4
                        have m5 : (fk == 5) = false := by simpa using k5
                        have m6 : (fk == 6) = false := by simpa using k6
                        clear k0 k1 k2 k3 k4 k5 k6
                        go_wp2_with fail
                        go_ret
                        exact ⟨by rw [HX.out]; rfl, HKR.out⟩
theorem checkExpr_c {P : Nat → Prop} {cs : List Cel} (hcl : cs.length ≤ 1000000) {w : World} {cv bv kb v : Value} {rows : List (List Value)} {fb f : EF} {t : EL} (hc : CsW P w cv cs) (h1 : isSl bv) (h2 : isSl kb) (h3 : EFr f) (h4 : Rows P w v 7 rows) (h5 : ELW P w t rows) : Calls Try.prog 58 #[prA cv bv fb kb, efA f v] w fun e w' => e = .returned (.int .i64 ((ckX cs (f, t) : Nat) : Int)) ∧ Keep w w' := checkExpr_n hcl fb t.size f t rfl w cv bv kb v rows hc h1 h2 h3 h4 h5
end Go.Proofs.Qxb6500772a
