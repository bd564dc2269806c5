/- corem: checkStmts. -/
import Derived.Test.Qxb6500772aTi
import Derived.Test.Qxb6500772aTh
import Derived.Test.Qxb6500772aTf
import Derived.Deep.RegionHeld3
namespace Go.Proofs.Qxb6500772a
open Go.RowKit Go.Qm
set_option linter.unusedVariables false
set_option linter.unusedSimpArgs false
attribute [local go_sem ↓] Go.wp_at_zero Go.wp_at_succ
set_option maxRecDepth 6000 in
set_option maxHeartbeats 20000000 in
theorem checkStmts_n {P : Nat → Prop} {cs : List Cel} (hcl : cs.length ≤ 1000000) (hcw : ∀ c ∈ cs, 1 ≤ c.w ∧ c.w ≤ 64) (fb : EF) : ∀ (N : Nat) (t : SL), t.size = N → N ≤ 1000000 → ∀ (w : World) (cv bv kb v : Value) (rows : List (List Value)), CsW P w cv cs → isSl bv → isSl kb → Rows P w v 8 rows → SLW P w t rows → Calls Try.prog 57 #[prA cv bv fb kb, v] w fun e w' => e = .returned (.int .i64 ((ckSL cs t : Nat) : Int)) ∧ Keep w w' := by
  intro N
  induction N using Nat.strongRecOn with
  | _ N ih =>
    intro t hN hN1 w cv bv kb v rows hc hb hkb hr he
    have HB0 := Hid.mk hb
    have HKB0 := Hid.mk hkb
    obtain ⟨ba, bn, bc, rfl⟩ := hb
    obtain ⟨ka, kn, kc, rfl⟩ := hkb
    obtain ⟨ca, cc, hcv, cv1, cv2⟩ := hc.form
    subst hcv
    have hlen := he.len
    obtain ⟨va, vc, hv, v1, v2⟩ := hr.form
    rw [hlen] at hv v1
    subst hv
    unfold maxLen at v2 cv2
    have HC := Hid.mk hc
    have HR := Hid.mk hr
    have HE := Hid.mk he
    have HLEN := Hid.mk hlen
    have HSZ : Hid (t.size ≤ 1000000) := Hid.mk (by omega)
    have HCW := Hid.mk hcw
    have HIH : Hid (∀ (t' : SL), t'.size < t.size → ∀ (W : World) (v : Value) (rows : List (List Value)), Keep w W → Rows P W v 8 rows → SLW P W t' rows → Calls Try.prog 57 #[prA (.slice ca cs.length cc) (.slice ba bn bc) fb (.slice ka kn kc), v] W fun e w' => e = .returned (.int .i64 ((ckSL cs t' : Nat) : Int)) ∧ Keep W w') := Hid.mk (fun t' ht' W v rows kk h1 h2 => ih t'.size (by rw [← hN]; exact ht') t' rfl (by omega) W _ _ _ v rows (HC.out.step (KP.of kk)) HB0.out HKB0.out h1 h2)
    have CEL : Hid (∀ W, Keep w W → ∀ (c n wd : Int), I64 c → I64 n → Calls Try.prog 85 #[prA (.slice ca cs.length cc) (.slice ba bn bc) fb (.slice ka kn kc), .int .i64 c, .int .i64 n, .int .i64 wd, .bool true] W fun e w' => e = .returned (.int .i64 ((cellsF cs c n wd true : Nat) : Int)) ∧ Keep W w') := Hid.mk (fun W kk c n wd h1 h2 => cells_c (HC.out.step (KP.of kk)) HB0.out fb HKB0.out c n wd true h1 h2 hcl)
    have BLK : Hid (∀ W, Keep w W → ∀ (c wd n : Int), I64 c → (n = 2 ∨ n = 3) → Calls Try.prog 86 #[prA (.slice ca cs.length cc) (.slice ba bn bc) fb (.slice ka kn kc), .int .i64 c, .int .i64 wd, .int .i64 n] W fun e w' => e = .returned (.int .i64 ((blockF cs c wd n : Nat) : Int)) ∧ Keep W w') := Hid.mk (fun W kk c wd n h1 h2 => block_c (HC.out.step (KP.of kk)) HB0.out fb HKB0.out c wd n h2 h1 hcl)
    have CEX : Hid (∀ W, Keep w W → ∀ (f : EF) (t : EL) (v : Value) (rows : List (List Value)), EFr f → Rows P W v 7 rows → ELW P W t rows → Calls Try.prog 58 #[prA (.slice ca cs.length cc) (.slice ba bn bc) fb (.slice ka kn kc), efA f v] W fun e w' => e = .returned (.int .i64 ((ckX cs (f, t) : Nat) : Int)) ∧ Keep W w') := Hid.mk (fun W kk f t v rows h1 h2 h3 => checkExpr_c hcl (HC.out.step (KP.of kk)) HB0.out HKB0.out h1 h2 h3)
    have HX : Hid (ckSL cs t = firstNZ (t.toL.map (ckSX cs))) := Hid.mk (ckSL_first cs t)
    generalize ckSL cs t = res at *
    simp only [SL.len] at *
    have hli : (t.toL.length : Int) ≤ 9223372036854775807 := by omega
    have hcli : (cs.length : Int) ≤ 1000000 := by omega
    clear hc hr he hlen ih hN hN1 hcw
    simp only [prA] at *
    obtain ⟨W, hW⟩ : ∃ W, W = w.alloc (.cells #[.slice ca cs.length cc, .slice ba bn bc, .int .i64 fb.k, .int .i64 fb.w, .int .i64 fb.o, .int .u64 (fb.v : Nat), .int .i64 fb.c, .int .i64 fb.l, .slice ka kn kc] 33) := ⟨_, rfl⟩
    have kW : Keep w W := by rw [hW]; exact (Keep.refl w).alloc _
    have aP : Arr W w.heap.size 33 (PrC (.slice ca cs.length cc) (.slice ba bn bc) fb (.slice ka kn kc)) := by rw [hW]; exact Arr.new w 33 _
    have HKW := Hid.mk kW
    have HAP := Hid.mk aP
    clear kW aP
    go_enter Try.func57, Try.ntmps57
    go_upto_region 1 with fail
    rw [← hW]
    generalize w.heap.size = gP at *
    clear hW
    go_wp2_with fail
    go_loopg [6, 8, 9, 10, 11, 14] t.toL.length (fun gk v6 v8 v9 v10 v11 v14 wr => ∃ (k : Nat), k + gk = t.toL.length ∧ v14 = .int .i64 k ∧ Keep W wr ∧ firstNZ (t.toL.map (ckSX cs)) = firstNZ ((t.toL.map (ckSX cs)).drop k))
    case atStart => exact ⟨0, by omega, rfl, Keep.refl W, rfl⟩
    case round =>
      obtain ⟨k, hk, rfl, kp, hG⟩ := hrel
      have HK := Hid.mk hk
      have HKP := Hid.mk kp
      have HG := Hid.mk hG
      by_cases hlt : k < t.toL.length
      · have j1 : (k : Int) < t.toL.length := by omega
        have j2 : (0 : Int) ≤ k := by omega
        have hrl : k < rows.length := by rw [HLEN.out]; exact hlt
        obtain ⟨ev, er, tv, tr, lv, lr, x1, x2, x3, x4, x5, x6, x7, x8⟩ := (HE.out.step (KP.of (HKW.out.trans kp))).get k hlt hrl
        obtain ⟨b, o, ha, -, -, hc⟩ := (HR.out.step (KP.of (HKW.out.trans kp))).cell hrl
        subst ha
        have c0 := hc 0 (by decide)
        have c1 := hc 1 (by decide)
        have c2 := hc 2 (by decide)
        have c3 := hc 3 (by decide)
        have c4 := hc 4 (by decide)
        have c5 := hc 5 (by decide)
        have c6 := hc 6 (by decide)
        have c7 := hc 7 (by decide)
        rw [x1] at c0 c1 c2 c3 c4 c5 c6 c7
        simp only [sfC, List.getElem?_cons_zero, List.getElem?_cons_succ, Nat.add_zero] at c0 c1 c2 c3 c4 c5 c6 c7
        have HSUB : Hid ((t.toL.map (ckSX cs)).drop k = ckSX cs t.toL[k] :: (t.toL.map (ckSX cs)).drop (k + 1)) := Hid.mk (by
          rw [List.drop_eq_getElem_cons (by simpa using hlt)]; simp)
        have hms := SL.mem_size (List.getElem_mem hlt)
        have HMS := Hid.mk hms
        generalize t.toL[k] = x at *
        obtain ⟨f, ex, th, el⟩ := x
        simp only at *
        have hel := x4.len
        have htl := x6.len
        have hll := x8.len
        have hts : th.len ≤ 1000000 := by have := SL.len_size th; have := HSZ.out; omega
        have hls : el.len ≤ 1000000 := by have := SL.len_size el; have := HSZ.out; omega
        obtain ⟨ea, ec, hev, ev1, ev2⟩ := x3.form
        obtain ⟨ta, tc, htv, tv1, tv2⟩ := x5.form
        obtain ⟨la, lc, hlv, lv1, lv2⟩ := x7.form
        rw [hel] at hev ev1
        rw [htl] at htv tv1
        rw [hll] at hlv lv1
        subst hev htv hlv
        unfold maxLen at ev2 tv2 lv2
        have HX3 := Hid.mk x3
        have HX4 := Hid.mk x4
        have HX5 := Hid.mk x5
        have HX6 := Hid.mk x6
        have HX7 := Hid.mk x7
        have HX8 := Hid.mk x8
        have HSF := Hid.mk x2
        have HEL := Hid.mk hel
        have hPW : gP < wr.heap.size := (HAP.out.keep kp).lt
        have HFN : Hid (firstNZ (ckSX cs (f, ex, th, el) :: (t.toL.map (ckSX cs)).drop (k + 1)) = if ckSX cs (f, ex, th, el) = 0 then firstNZ ((t.toL.map (ckSX cs)).drop (k + 1)) else ckSX cs (f, ex, th, el)) := Hid.mk rfl
        have HRX : Hid (ckSX cs (f, ex, th, el) = if firstNZ (ex.toL.map (ckX cs)) = 0 then ckSO cs f ex.ws th.len el.len (ckSL cs th) (ckSL cs el) else firstNZ (ex.toL.map (ckX cs))) := Hid.mk (by rw [← ckL_first]; rfl)
        generalize ckSX cs (f, ex, th, el) = rx at *
        unfold EL.len at ev1 hel HEL HX3
        have hexi : (ex.toL.length : Int) ≤ 9223372036854775807 := by omega
        clear hc x1 x2 x3 x4 x5 x6 x7 x8 hk kp hrl hms hG hel htl hll
        go_upto_region 4 with fail
        obtain ⟨V, hV⟩ : ∃ V, V = wr.alloc (.cells #[.int .i64 f.k, .int .i64 f.c, .int .i64 f.l, .int .i64 f.a, .int .i64 f.b, .slice ea ex.toL.length ec, .slice ta th.len tc, .slice la el.len lc] 109) := ⟨_, rfl⟩
        rw [show ex.len = ex.toL.length from rfl] at *
        rw [← hV]
        have kV : Keep wr V := by rw [hV]; exact (Keep.refl wr).alloc _
        have aV : Arr V wr.heap.size 109 (SfC f (.slice ea ex.toL.length ec) (.slice ta th.len tc) (.slice la el.len lc)) := by rw [hV]; exact Arr.new wr 109 _
        have HKV := Hid.mk kV
        have HAV := Hid.mk aV
        have HAPV := Hid.mk (HAP.out.keep (HKP.out.trans kV))
        have HKWV := Hid.mk (HKW.out.trans (HKP.out.trans kV))
        have HKPV := Hid.mk (HKP.out.trans kV)
        have HX3 := Hid.mk (HX3.out.step (KP.of kV))
        have HX4 := Hid.mk (HX4.out.step (KP.of kV))
        have HX5 := Hid.mk (HX5.out.step (KP.of kV))
        have HX6 := Hid.mk (HX6.out.step (KP.of kV))
        have HX7 := Hid.mk (HX7.out.step (KP.of kV))
        have HX8 := Hid.mk (HX8.out.step (KP.of kV))
        obtain ⟨q0, q1, q2, q3, q4, q5, q6, q7⟩ := sfC_cells aV
        generalize wr.heap.size = gQ at *
        clear hV kV aV c0 c1 c2 c3 c4 c5 c6 c7 HE HR
        go_wp2_with fail
        go_loopg [8, 9, 21] ex.toL.length (fun gj v8 v9 v21 wi => ∃ (m : Nat), m + gj = ex.toL.length ∧ v21 = .int .i64 m ∧ Keep V wi ∧ firstNZ (ex.toL.map (ckX cs)) = firstNZ ((ex.toL.map (ckX cs)).drop m))
        case atStart => exact ⟨0, by omega, rfl, Keep.refl V, rfl⟩
        case round =>
          obtain ⟨m, hm, rfl, kq, hH⟩ := hrel
          have HM := Hid.mk hm
          have HKQ := Hid.mk kq
          have HH := Hid.mk hH
          by_cases hlt2 : m < ex.toL.length
          · have l1 : (m : Int) < ex.toL.length := by omega
            have l2 : (0 : Int) ≤ m := by omega
            have hrl : m < er.length := by rw [HEL.out]; exact hlt2
            obtain ⟨yv, yr, y1, y2, y3, y4⟩ := (HX4.out.step (KP.of kq)).get m hlt2 hrl
            obtain ⟨b', o', ha, -, -, hc⟩ := (HX3.out.step (KP.of kq)).cell hrl
            subst ha
            have c0 := hc 0 (by decide)
            have c1 := hc 1 (by decide)
            have c2 := hc 2 (by decide)
            have c3 := hc 3 (by decide)
            have c4 := hc 4 (by decide)
            have c5 := hc 5 (by decide)
            have c6 := hc 6 (by decide)
            rw [y1] at c0 c1 c2 c3 c4 c5 c6
            simp only [efC, List.getElem?_cons_zero, List.getElem?_cons_succ, Nat.add_zero] at c0 c1 c2 c3 c4 c5 c6
            have HSUB2 : Hid ((ex.toL.map (ckX cs)).drop m = ckX cs ex.toL[m] :: (ex.toL.map (ckX cs)).drop (m + 1)) := Hid.mk (by
              rw [List.drop_eq_getElem_cons (by simpa using hlt2)]; simp)
            generalize ex.toL[m] = x at *
            obtain ⟨g, xk⟩ := x
            simp only at *
            obtain ⟨ya, yc, hyv, yv1, yv2⟩ := y3.form
            subst hyv
            have IH2 := fun V2 (kk : Keep wr V2) => CEX.out V2 (HKWV.out.trans (kq.trans kk)) g xk _ _ y2 (y3.step (KP.of kk)) (y4.step (KP.of kk))
            have HI2 := Hid.mk IH2
            have hPW2 : gP < wr.heap.size := (HAPV.out.keep kq).lt
            have hQW2 : gQ < wr.heap.size := (HAV.out.keep kq).lt
            generalize hrx : ckX cs (g, xk) = ry at *
            clear hc y1 y2 y3 y4 IH2 hm kq hH hrl hrx q0 q1 q2 q3 q4 q5 q6 q7
            go_upto_region 7 with fail
            obtain ⟨U, hU⟩ : ∃ U, U = wr.alloc (.cells #[.int .i64 g.k, .int .i64 g.w, .int .i64 g.o, .int .u64 (g.v : Nat), .int .i64 g.c, .int .i64 g.l, .slice ya yr.length yc] 31) := ⟨_, rfl⟩
            rw [← hU]
            have kU : Keep wr U := by rw [hU]; exact (Keep.refl wr).alloc _
            have aU : Arr U wr.heap.size 31 (EfC g (.slice ya yr.length yc)) := by rw [hU]; exact Arr.new wr 31 _
            have IH3 := HI2.out U kU
            simp only [efA] at IH3
            have HKU := Hid.mk (HKQ.out.trans kU)
            obtain ⟨d0, d1, d2, d3, d4, d5, d6, d7, d8⟩ := prC_cells (HAPV.out.keep HKU.out)
            obtain ⟨q0, q1, q2, q3, q4, q5, q6⟩ := efC_cells aU
            generalize wr.heap.size = gR at *
            clear hU kU aU c0 c1 c2 c3 c4 c5 c6
            go_wp2_with fail
            refine IH3.mono ?_
            rintro e w2 ⟨rfl, k2⟩
            have HK2 := Hid.mk (HKU.out.trans k2)
            have HFN2 : Hid (firstNZ (ry :: (ex.toL.map (ckX cs)).drop (m + 1)) = if ry = 0 then firstNZ ((ex.toL.map (ckX cs)).drop (m + 1)) else ry) := Hid.mk rfl
            clear k2 IH3 q0 q1 q2 q3 q4 q5 q6 d0 d1 d2 d3 d4 d5 d6 d7 d8
            by_cases z : ry = 0
            · subst z
              rw [if_pos rfl] at HFN2
              go_wp2_with fail
              go_roundg (gk - 1)
              case measure => have := HM.out; omega
              case rel => exact ⟨m + 1, by have := HM.out; omega, by go_num, HK2.out, by rw [HH.out, HSUB2.out, HFN2.out]⟩
            · rw [if_neg z] at HFN2
              have z2 : ((ry : Int) == 0) = false := by simp; omega
              have z3 : ((ry : Int) != 0) = true := by simp; omega
              have HZ := Hid.mk z
              clear z
              go_wp2_with fail
              go_ret
              refine ⟨?_, HKWV.out.trans HK2.out⟩
              have e1 : firstNZ (ex.toL.map (ckX cs)) = ry := by rw [HH.out, HSUB2.out, HFN2.out]
              have e2 : rx = ry := by rw [HRX.out, e1, if_neg HZ.out]
              rw [HX.out, HG.out, HSUB.out, HFN.out, e2, if_neg HZ.out]
              rfl
          · have l1 : ¬ (m : Int) < ex.toL.length := by omega
            obtain rfl : m = ex.toL.length := by omega
            have hz : firstNZ (ex.toL.map (ckX cs)) = 0 := by rw [hH, List.drop_of_length_le (by simp)]; rfl
            rw [if_pos hz] at HRX
            obtain ⟨d0, d1, d2, d3, d4, d5, d6, d7, d8⟩ := prC_cells (HAPV.out.keep kq)
            obtain ⟨q0, q1, q2, q3, q4, q5, q6, q7⟩ := sfC_cells (HAV.out.keep kq)
            have HKR := Hid.mk (HKPV.out.trans kq)
            have HDS : Hid (∀ Z, Keep wr Z → Arr Z gP 33 (PrC (.slice ca cs.length cc) (.slice ba bn bc) fb (.slice ka kn kc)) ∧ Arr Z gQ 109 (SfC f (.slice ea ex.toL.length ec) (.slice ta th.len tc) (.slice la el.len lc))) := Hid.mk (fun Z kz => ⟨HAPV.out.keep (kq.trans kz), HAV.out.keep (kq.trans kz)⟩)
            have HWL : Hid (ex.ws.length = ex.toL.length) := Hid.mk (by simp [EL.ws])
            have KID : Hid (∀ i (hi : i < ex.toL.length), ∃ b o, ea = some ⟨b, o, none⟩ ∧ ∀ Z, Keep wr Z → Z.cell? ⟨b, o + i * 7 + 1, none⟩ = some (.int .i64 (ex.ws.getD i 0))) := Hid.mk (fun i hi => by
              have hrl : i < er.length := by rw [HEL.out]; exact hi
              obtain ⟨xv, xr, x1, x2, x3, x4⟩ := (HX4.out.step (KP.of HKQ.out)).get i hi hrl
              obtain ⟨b, o, ha, -, -, hc⟩ := (HX3.out.step (KP.of HKQ.out)).cell hrl
              refine ⟨b, o, ha, fun Z kz => ?_⟩
              have h1 := hc 1 (by decide)
              rw [x1] at h1
              have h2 : wr.cell? ⟨b, o + i * 7 + 1, none⟩ = some (.int .i64 (ex.ws.getD i 0)) := by
                rw [h1]; simp [efC, EL.ws, List.getD_eq_getElem?_getD, hi]
              exact kz.cell h2)
            have HTH : Hid (∀ Z, Keep wr Z → Calls Try.prog 57 #[.agg #[.slice ca cs.length cc, .slice ba bn bc, .int .i64 fb.k, .int .i64 fb.w, .int .i64 fb.o, .int .u64 (fb.v : Nat), .int .i64 fb.c, .int .i64 fb.l, .slice ka kn kc], .slice ta th.len tc] Z fun e w' => e = .returned (.int .i64 ((ckSL cs th : Nat) : Int)) ∧ Keep Z w') := Hid.mk (fun Z kz => HIH.out th HMS.out.1 Z _ _ (HKWV.out.trans (kq.trans kz)) (HX5.out.step (KP.of (kq.trans kz))) (HX6.out.step (KP.of (kq.trans kz))))
            have HEL2 : Hid (∀ Z, Keep wr Z → Calls Try.prog 57 #[.agg #[.slice ca cs.length cc, .slice ba bn bc, .int .i64 fb.k, .int .i64 fb.w, .int .i64 fb.o, .int .u64 (fb.v : Nat), .int .i64 fb.c, .int .i64 fb.l, .slice ka kn kc], .slice la el.len lc] Z fun e w' => e = .returned (.int .i64 ((ckSL cs el : Nat) : Int)) ∧ Keep Z w') := Hid.mk (fun Z kz => HIH.out el HMS.out.2 Z _ _ (HKWV.out.trans (kq.trans kz)) (HX7.out.step (KP.of (kq.trans kz))) (HX8.out.step (KP.of (kq.trans kz))))
            have CEL2 : Hid (∀ Z, Keep wr Z → ∀ (c n wd : Int), I64 c → I64 n → Calls Try.prog 85 #[.agg #[.slice ca cs.length cc, .slice ba bn bc, .int .i64 fb.k, .int .i64 fb.w, .int .i64 fb.o, .int .u64 (fb.v : Nat), .int .i64 fb.c, .int .i64 fb.l, .slice ka kn kc], .int .i64 c, .int .i64 n, .int .i64 wd, .bool true] Z fun e w' => e = .returned (.int .i64 ((cellsF cs c n wd true : Nat) : Int)) ∧ Keep Z w') := Hid.mk (fun Z kz c n wd h1 h2 => CEL.out Z (HKWV.out.trans (kq.trans kz)) c n wd h1 h2)
            have BLK2 : Hid (∀ Z, Keep wr Z → ∀ (c wd n : Int), I64 c → (n = 2 ∨ n = 3) → Calls Try.prog 86 #[.agg #[.slice ca cs.length cc, .slice ba bn bc, .int .i64 fb.k, .int .i64 fb.w, .int .i64 fb.o, .int .u64 (fb.v : Nat), .int .i64 fb.c, .int .i64 fb.l, .slice ka kn kc], .int .i64 c, .int .i64 wd, .int .i64 n] Z fun e w' => e = .returned (.int .i64 ((blockF cs c wd n : Nat) : Int)) ∧ Keep Z w') := Hid.mk (fun Z kz c wd n h1 h2 => BLK.out Z (HKWV.out.trans (kq.trans kz)) c wd n h1 h2)
            have CSW : Hid (CsW P wr (.slice ca cs.length cc) cs) := Hid.mk (HC.out.step (KP.of (HKWV.out.trans kq)))
            obtain ⟨r1, r2, r3, r4, r5⟩ := HSF.out
            clear hm kq hH hz HH CEL BLK CEX HIH HC HX3 HX4 HX5 HX6 HX7 HX8 HEL HKQ HAV HAPV HAP HB0 HKB0
            generalize ex.ws = ks at *
            generalize ex.toL.length = n at *
            generalize ckSL cs th = tcv at *
            generalize ckSL cs el = lcv at *
            have t1 : (th.len : Int) ≤ 1000000 := by omega
            have t2 : (el.len : Int) ≤ 1000000 := by omega
            generalize th.len = nt at *
            generalize el.len = nl at *
            have nti : (0 : Int) ≤ nt := by omega
            have nli : (0 : Int) ≤ nl := by omega
            obtain ⟨fk, fc, fl, fa, fbb⟩ := f
            simp only at *
            by_cases k0 : fk = 0
            · as_aux_lemma =>
                subst k0
                rw [ckS_0 rfl, HWL.out] at HRX
                by_cases n0 : n = 1
                · rw [if_pos n0] at HRX
                  subst n0
                  by_cases s0 : nt + nl = 0
                  · rw [if_pos s0] at HRX
                    obtain ⟨rfl, rfl⟩ : nt = 0 ∧ nl = 0 := by omega
                    obtain ⟨b, o, ha, hkd⟩ := KID.out 0 (by decide)
                    subst ha
                    simp only [Nat.zero_mul, Nat.one_mul, Nat.add_zero, Nat.reduceMul] at hkd
                    have HKD := Hid.mk hkd
                    have hc0 := hkd wr (Keep.refl wr)
                    clear hkd
                    generalize ks.getD 0 0 = a0 at *
                    have HSS : Hid (∀ w', Keep wr w' → w'.cell? ⟨gP, 0, none⟩ = some (.slice ca cs.length cc) ∧ w'.cell? ⟨gP, 1, none⟩ = some (.slice ba bn bc) ∧ w'.cell? ⟨gP, 2, none⟩ = some (.int .i64 fb.k) ∧ w'.cell? ⟨gP, 3, none⟩ = some (.int .i64 fb.w) ∧ w'.cell? ⟨gP, 4, none⟩ = some (.int .i64 fb.o) ∧ w'.cell? ⟨gP, 5, none⟩ = some (.int .u64 (fb.v : Nat)) ∧ w'.cell? ⟨gP, 6, none⟩ = some (.int .i64 fb.c) ∧ w'.cell? ⟨gP, 7, none⟩ = some (.int .i64 fb.l) ∧ w'.cell? ⟨gP, 8, none⟩ = some (.slice ka kn kc) ∧ w'.cell? ⟨gQ, 1, none⟩ = some (.int .i64 fc) ∧ w'.cell? ⟨gQ, 2, none⟩ = some (.int .i64 fl) ∧ w'.cell? ⟨gQ, 5, none⟩ = some (.slice (some ⟨b, o, none⟩) 1 ec) ∧ w'.cell? ⟨b, o + 1, none⟩ = some (.int .i64 a0)) := Hid.mk (fun Z kz => by
                      obtain ⟨hd9, hq9⟩ := HDS.out Z kz
                      obtain ⟨d0, d1, d2, d3, d4, d5, d6, d7, d8⟩ := prC_cells hd9
                      obtain ⟨q0, q1, q2, q3, q4, q5, q6, q7⟩ := sfC_cells hq9
                      exact ⟨d0, d1, d2, d3, d4, d5, d6, d7, d8, q1, q2, q5, HKD.out Z kz⟩)
                    have HCE := Hid.mk (fun Z (kz : Keep wr Z) => CEL2.out Z kz fc 1 a0 r2 ⟨by decide, by decide⟩)
                    clear BLK2 CEL2 HTH HEL2
                    go_wp2_with fail
                    go_region_held3 (fun w' => w'.cell? ⟨gP, 0, none⟩ = some (.slice ca cs.length cc) ∧ w'.cell? ⟨gP, 1, none⟩ = some (.slice ba bn bc) ∧ w'.cell? ⟨gP, 2, none⟩ = some (.int .i64 fb.k) ∧ w'.cell? ⟨gP, 3, none⟩ = some (.int .i64 fb.w) ∧ w'.cell? ⟨gP, 4, none⟩ = some (.int .i64 fb.o) ∧ w'.cell? ⟨gP, 5, none⟩ = some (.int .u64 (fb.v : Nat)) ∧ w'.cell? ⟨gP, 6, none⟩ = some (.int .i64 fb.c) ∧ w'.cell? ⟨gP, 7, none⟩ = some (.int .i64 fb.l) ∧ w'.cell? ⟨gP, 8, none⟩ = some (.slice ka kn kc) ∧ w'.cell? ⟨gQ, 1, none⟩ = some (.int .i64 fc) ∧ w'.cell? ⟨gQ, 2, none⟩ = some (.int .i64 fl) ∧ w'.cell? ⟨gQ, 5, none⟩ = some (.slice (some ⟨b, o, none⟩) 1 ec) ∧ w'.cell? ⟨b, o + 1, none⟩ = some (.int .i64 a0)) (first | exact HSS.out _ ((Keep.refl wr).drew) | exact HSS.out _ (((Keep.refl wr).drew).trans k2)) (first | (go_at_call 85; refine (HCE.out _ ((Keep.refl wr).drew)).mono ?_; rintro e w2 ⟨rfl, k2⟩))
                    have HKw2 := Hid.mk (((Keep.refl wr).drew).trans k2)
                    clear k2 HCE HSS
                    by_cases z : cellsF cs fc 1 a0 true = 0
                    · rw [z] at HRX ⊢
                      have HZ := Hid.mk z
                      clear z
                      go_wp2_with fail
                      go_roundg (t.toL.length - (k + 1))
                      case measure => have := HK.out; omega
                      case rel => exact ⟨k + 1, by have := HK.out; omega, by go_num, HKR.out.trans HKw2.out, by rw [HG.out, HSUB.out, HFN.out, HRX.out, if_pos rfl]⟩
                    · have z2 : (((cellsF cs fc 1 a0 true : Nat) : Int) == 0) = false := by simp; omega
                      have z3 : (((cellsF cs fc 1 a0 true : Nat) : Int) != 0) = true := by simp; omega
                      have HZ := Hid.mk z
                      clear z
                      go_wp2_with fail
                      go_ret
                      refine ⟨?_, HKW.out.trans (HKR.out.trans HKw2.out)⟩
                      rw [HX.out, HG.out, HSUB.out, HFN.out, HRX.out, if_neg HZ.out]
                      rfl
                  · rw [if_neg s0] at HRX
                    have s1 : ((nt : Int) + nl == 0) = false := by simp; omega
                    clear s0
                    go_wp2_with fail
                    go_ret
                    refine ⟨?_, HKW.out.trans HKR.out⟩
                    rw [HX.out, HG.out, HSUB.out, HFN.out, HRX.out, if_neg (by decide)]
                    rfl
                · rw [if_neg n0] at HRX
                  have n1 : ((n : Int) == 1) = false := by simp; omega
                  clear n0
                  go_wp2_with fail
                  go_ret
                  refine ⟨?_, HKW.out.trans HKR.out⟩
                  rw [HX.out, HG.out, HSUB.out, HFN.out, HRX.out, if_neg (by decide)]
                  rfl
            · by_cases k1 : fk = 1
              · as_aux_lemma =>
                  subst k1
                  rw [ckS_1 rfl, HWL.out] at HRX
                  by_cases n0 : n = 2
                  · rw [if_pos n0] at HRX
                    subst n0
                    by_cases s0 : nt + nl = 0
                    · rw [if_pos s0] at HRX
                      obtain ⟨rfl, rfl⟩ : nt = 0 ∧ nl = 0 := by omega
                      obtain ⟨b, o, ha, hkd⟩ := KID.out 0 (by decide)
                      subst ha
                      simp only [Nat.zero_mul, Nat.one_mul, Nat.add_zero, Nat.reduceMul] at hkd
                      have HKD := Hid.mk hkd
                      have hc0 := hkd wr (Keep.refl wr)
                      clear hkd
                      obtain ⟨b', o', ha', hkd'⟩ := KID.out 1 (by decide)
                      obtain ⟨rfl, rfl⟩ : b = b' ∧ o = o' := by simpa using ha'
                      simp only [Nat.zero_mul, Nat.one_mul, Nat.add_zero, Nat.reduceMul] at hkd'
                      have HKD1 := Hid.mk hkd'
                      have hc1 := hkd' wr (Keep.refl wr)
                      clear hkd' ha'
                      generalize ks.getD 0 0 = a0 at *
                      generalize ks.getD 1 0 = a1 at *
                      have HSS : Hid (∀ w', Keep wr w' → w'.cell? ⟨gP, 0, none⟩ = some (.slice ca cs.length cc) ∧ w'.cell? ⟨gP, 1, none⟩ = some (.slice ba bn bc) ∧ w'.cell? ⟨gP, 2, none⟩ = some (.int .i64 fb.k) ∧ w'.cell? ⟨gP, 3, none⟩ = some (.int .i64 fb.w) ∧ w'.cell? ⟨gP, 4, none⟩ = some (.int .i64 fb.o) ∧ w'.cell? ⟨gP, 5, none⟩ = some (.int .u64 (fb.v : Nat)) ∧ w'.cell? ⟨gP, 6, none⟩ = some (.int .i64 fb.c) ∧ w'.cell? ⟨gP, 7, none⟩ = some (.int .i64 fb.l) ∧ w'.cell? ⟨gP, 8, none⟩ = some (.slice ka kn kc) ∧ w'.cell? ⟨gQ, 1, none⟩ = some (.int .i64 fc) ∧ w'.cell? ⟨gQ, 2, none⟩ = some (.int .i64 fl) ∧ w'.cell? ⟨gQ, 5, none⟩ = some (.slice (some ⟨b, o, none⟩) 2 ec) ∧ w'.cell? ⟨b, o + 7 + 1, none⟩ = some (.int .i64 a1)) := Hid.mk (fun Z kz => by
                        obtain ⟨hd9, hq9⟩ := HDS.out Z kz
                        obtain ⟨d0, d1, d2, d3, d4, d5, d6, d7, d8⟩ := prC_cells hd9
                        obtain ⟨q0, q1, q2, q3, q4, q5, q6, q7⟩ := sfC_cells hq9
                        exact ⟨d0, d1, d2, d3, d4, d5, d6, d7, d8, q1, q2, q5, HKD1.out Z kz⟩)
                      have HCE := Hid.mk (fun Z (kz : Keep wr Z) => CEL2.out Z kz fc fl a1 r2 r3)
                      clear BLK2 CEL2 HTH HEL2
                      go_wp2_with fail
                      go_region_held3 (fun w' => w'.cell? ⟨gP, 0, none⟩ = some (.slice ca cs.length cc) ∧ w'.cell? ⟨gP, 1, none⟩ = some (.slice ba bn bc) ∧ w'.cell? ⟨gP, 2, none⟩ = some (.int .i64 fb.k) ∧ w'.cell? ⟨gP, 3, none⟩ = some (.int .i64 fb.w) ∧ w'.cell? ⟨gP, 4, none⟩ = some (.int .i64 fb.o) ∧ w'.cell? ⟨gP, 5, none⟩ = some (.int .u64 (fb.v : Nat)) ∧ w'.cell? ⟨gP, 6, none⟩ = some (.int .i64 fb.c) ∧ w'.cell? ⟨gP, 7, none⟩ = some (.int .i64 fb.l) ∧ w'.cell? ⟨gP, 8, none⟩ = some (.slice ka kn kc) ∧ w'.cell? ⟨gQ, 1, none⟩ = some (.int .i64 fc) ∧ w'.cell? ⟨gQ, 2, none⟩ = some (.int .i64 fl) ∧ w'.cell? ⟨gQ, 5, none⟩ = some (.slice (some ⟨b, o, none⟩) 2 ec) ∧ w'.cell? ⟨b, o + 7 + 1, none⟩ = some (.int .i64 a1)) (first | exact HSS.out _ ((Keep.refl wr).drew) | exact HSS.out _ (((Keep.refl wr).drew).trans k2)) (first | (go_at_call 85; refine (HCE.out _ ((Keep.refl wr).drew)).mono ?_; rintro e w2 ⟨rfl, k2⟩))
                      have HKw2 := Hid.mk (((Keep.refl wr).drew).trans k2)
                      clear k2 HCE HSS
                      by_cases z : cellsF cs fc fl a1 true = 0
                      · rw [z] at HRX ⊢
                        have HZ := Hid.mk z
                        clear z
                        go_wp2_with fail
                        go_roundg (t.toL.length - (k + 1))
                        case measure => have := HK.out; omega
                        case rel => exact ⟨k + 1, by have := HK.out; omega, by go_num, HKR.out.trans HKw2.out, by rw [HG.out, HSUB.out, HFN.out, HRX.out, if_pos rfl]⟩
                      · have z2 : (((cellsF cs fc fl a1 true : Nat) : Int) == 0) = false := by simp; omega
                        have z3 : (((cellsF cs fc fl a1 true : Nat) : Int) != 0) = true := by simp; omega
                        have HZ := Hid.mk z
                        clear z
                        go_wp2_with fail
                        go_ret
                        refine ⟨?_, HKW.out.trans (HKR.out.trans HKw2.out)⟩
                        rw [HX.out, HG.out, HSUB.out, HFN.out, HRX.out, if_neg HZ.out]
                        rfl
                    · rw [if_neg s0] at HRX
                      have s1 : ((nt : Int) + nl == 0) = false := by simp; omega
                      clear s0
                      go_wp2_with fail
                      go_ret
                      refine ⟨?_, HKW.out.trans HKR.out⟩
                      rw [HX.out, HG.out, HSUB.out, HFN.out, HRX.out, if_neg (by decide)]
                      rfl
                  · rw [if_neg n0] at HRX
                    have n1 : ((n : Int) == 2) = false := by simp; omega
                    clear n0
                    go_wp2_with fail
                    go_ret
                    refine ⟨?_, HKW.out.trans HKR.out⟩
                    rw [HX.out, HG.out, HSUB.out, HFN.out, HRX.out, if_neg (by decide)]
                    rfl
              · by_cases k2 : fk = 2
                · as_aux_lemma =>
                    subst k2
                    rw [ckS_2 rfl, HWL.out] at HRX
                    by_cases n0 : n = 1
                    · rw [if_pos n0] at HRX
                      subst n0
                      obtain ⟨b, o, ha, hkd⟩ := KID.out 0 (by decide)
                      subst ha
                      simp only [Nat.zero_mul, Nat.one_mul, Nat.add_zero, Nat.reduceMul] at hkd
                      have HKD := Hid.mk hkd
                      have hc0 := hkd wr (Keep.refl wr)
                      clear hkd
                      generalize ks.getD 0 0 = a0 at *
                      by_cases a1 : a0 = 1
                      · subst a1
                        rw [if_pos rfl] at HRX
                        go_wp2_with fail
                        refine (HTH.out wr (Keep.refl wr)).mono ?_
                        rintro e w2 ⟨rfl, kk⟩
                        have HKw2 := Hid.mk ((Keep.refl wr).trans kk)
                        obtain ⟨hd9, hq9⟩ := HDS.out w2 HKw2.out
                        obtain ⟨d0, d1, d2, d3, d4, d5, d6, d7, d8⟩ := prC_cells hd9
                        obtain ⟨q0, q1, q2, q3, q4, q5, q6, q7⟩ := sfC_cells hq9
                        clear kk hd9 hq9
                        by_cases tz : tcv = 0
                        · subst tz
                          rw [if_pos rfl] at HRX
                          go_wp2_with fail
                          refine (HEL2.out w2 HKw2.out).mono ?_
                          rintro e w3 ⟨rfl, kk⟩
                          have HKw3 := Hid.mk ((HKw2.out).trans kk)
                          obtain ⟨hd9, hq9⟩ := HDS.out w3 HKw3.out
                          obtain ⟨d0, d1, d2, d3, d4, d5, d6, d7, d8⟩ := prC_cells hd9
                          obtain ⟨q0, q1, q2, q3, q4, q5, q6, q7⟩ := sfC_cells hq9
                          clear kk hd9 hq9
                          by_cases z : lcv = 0
                          · rw [z] at HRX ⊢
                            have HZ := Hid.mk z
                            clear z
                            go_wp2_with fail
                            go_roundg (t.toL.length - (k + 1))
                            case measure => have := HK.out; omega
                            case rel => exact ⟨k + 1, by have := HK.out; omega, by go_num, HKR.out.trans HKw3.out, by rw [HG.out, HSUB.out, HFN.out, HRX.out, if_pos rfl]⟩
                          · have z2 : (((lcv : Nat) : Int) == 0) = false := by simp; omega
                            have z3 : (((lcv : Nat) : Int) != 0) = true := by simp; omega
                            have HZ := Hid.mk z
                            clear z
                            go_wp2_with fail
                            go_ret
                            refine ⟨?_, HKW.out.trans (HKR.out.trans HKw3.out)⟩
                            rw [HX.out, HG.out, HSUB.out, HFN.out, HRX.out, if_neg HZ.out]
                            rfl
                        · rw [if_neg tz] at HRX
                          have tz2 : ((tcv : Int) == 0) = false := by simp; omega
                          have tz3 : ((tcv : Int) != 0) = true := by simp; omega
                          have HTZ := Hid.mk tz
                          clear tz
                          go_wp2_with fail
                          go_ret
                          refine ⟨?_, HKW.out.trans (HKR.out.trans HKw2.out)⟩
                          rw [HX.out, HG.out, HSUB.out, HFN.out, HRX.out, if_neg HTZ.out]
                          rfl
                      · rw [if_neg a1] at HRX
                        have a2 : (a0 == 1) = false := by simpa using a1
                        clear a1
                        go_wp2_with fail
                        go_ret
                        refine ⟨?_, HKW.out.trans HKR.out⟩
                        rw [HX.out, HG.out, HSUB.out, HFN.out, HRX.out, if_neg (by decide)]
                        rfl
                    · rw [if_neg n0] at HRX
                      have n1 : ((n : Int) == 1) = false := by simp; omega
                      clear n0
                      go_wp2_with fail
                      go_ret
                      refine ⟨?_, HKW.out.trans HKR.out⟩
                      rw [HX.out, HG.out, HSUB.out, HFN.out, HRX.out, if_neg (by decide)]
                      rfl
                · by_cases k3 : fk = 3
                  · as_aux_lemma =>
                      subst k3
                      rw [ckS_3 rfl, HWL.out] at HRX
                      by_cases n0 : n = 0
                      · rw [if_pos n0] at HRX
                        subst n0
                        by_cases s0 : nl = 0
                        · rw [if_pos s0] at HRX
                          subst s0
                          by_cases cb : fc < 0 ∨ (cs.length : Int) ≤ fc
                          · rw [if_pos cb] at HRX
                            by_cases cb1 : fc < 0
                            · clear cb
                              go_wp2_with fail
                              go_ret
                              refine ⟨?_, HKW.out.trans HKR.out⟩
                              rw [HX.out, HG.out, HSUB.out, HFN.out, HRX.out, if_neg (by decide)]
                              rfl
                            · have cb2 : (cs.length : Int) ≤ fc := by omega
                              have cb3 : 0 ≤ fc := by omega
                              clear cb cb1
                              go_wp2_with fail
                              go_ret
                              refine ⟨?_, HKW.out.trans HKR.out⟩
                              rw [HX.out, HG.out, HSUB.out, HFN.out, HRX.out, if_neg (by decide)]
                              rfl
                          · rw [if_neg cb] at HRX
                            obtain ⟨C, rfl⟩ : ∃ C : Nat, fc = C := ⟨fc.toNat, by omega⟩
                            have cb1 : (C : Int) < cs.length := by omega
                            have cb2 : (0 : Int) ≤ C := by omega
                            have hCl : C < cs.length := by omega
                            obtain ⟨b, o, hca, hcl2⟩ := CSW.out.cell hCl
                            subst hca
                            have cw0 := hcl2 0 (by decide)
                            have hcwb := HCW.out cs[C] (List.getElem_mem hCl)
                            have hcW : cs[C].w = celW cs (C : Int) := by simp [celW, List.getD_eq_getElem?_getD, hCl]
                            simp only [celC, List.getElem?_cons_zero, Nat.add_zero] at cw0
                            rw [hcW] at cw0 hcwb
                            clear hcl2 hcW cb
                            generalize celW cs (C : Int) = cw at *
                            obtain ⟨wd, rfl⟩ : ∃ wd : Nat, cw = wd := ⟨cw.toNat, by omega⟩
                            rw [Int.toNat_natCast] at HRX
                            have CE := CEL2.out wr (Keep.refl wr) C 1 wd r2 ⟨by decide, by decide⟩
                            have FA := fitsS_c fa wd (by omega) (by omega) r4.1 r4.2
                            have FB := fitsS_c fbb wd (by omega) (by omega) r5.1 r5.2
                            generalize cellsF cs (C : Int) 1 (wd : Int) true = ce at *
                            go_wp2_with fail
                            refine (CE).mono ?_
                            rintro e w2 ⟨rfl, kk⟩
                            have HKw2 := Hid.mk ((Keep.refl wr).trans kk)
                            obtain ⟨hd9, hq9⟩ := HDS.out w2 HKw2.out
                            obtain ⟨d0, d1, d2, d3, d4, d5, d6, d7, d8⟩ := prC_cells hd9
                            obtain ⟨q0, q1, q2, q3, q4, q5, q6, q7⟩ := sfC_cells hq9
                            clear kk hd9 hq9
                            clear CE
                            by_cases cz : ce = 0
                            · subst cz
                              rw [if_pos rfl] at HRX
                              go_wp2_with fail
                              refine (FA _).mono ?_
                              rintro e y ⟨rfl, hy⟩
                              subst hy
                              by_cases fA : fitS fa wd = true
                              · rw [if_pos fA] at HRX
                                rw [fA]
                                clear FA fA
                                go_wp2_with fail
                                refine (FB _).mono ?_
                                rintro e y ⟨rfl, hy⟩
                                subst hy
                                by_cases fB : fitS fbb wd = true
                                · rw [if_pos fB] at HRX
                                  rw [fB]
                                  clear FB fB
                                  go_wp2_with fail
                                  refine (HTH.out _ HKw2.out).mono ?_
                                  rintro e w3 ⟨rfl, kk⟩
                                  have HKw3 := Hid.mk ((HKw2.out).trans kk)
                                  obtain ⟨hd9, hq9⟩ := HDS.out w3 HKw3.out
                                  obtain ⟨d0, d1, d2, d3, d4, d5, d6, d7, d8⟩ := prC_cells hd9
                                  obtain ⟨q0, q1, q2, q3, q4, q5, q6, q7⟩ := sfC_cells hq9
                                  clear kk hd9 hq9
                                  by_cases z : tcv = 0
                                  · rw [z] at HRX ⊢
                                    have HZ := Hid.mk z
                                    clear z
                                    go_wp2_with fail
                                    go_roundg (t.toL.length - (k + 1))
                                    case measure => have := HK.out; omega
                                    case rel => exact ⟨k + 1, by have := HK.out; omega, by go_num, HKR.out.trans HKw3.out, by rw [HG.out, HSUB.out, HFN.out, HRX.out, if_pos rfl]⟩
                                  · have z2 : (((tcv : Nat) : Int) == 0) = false := by simp; omega
                                    have z3 : (((tcv : Nat) : Int) != 0) = true := by simp; omega
                                    have HZ := Hid.mk z
                                    clear z
                                    go_wp2_with fail
                                    go_ret
                                    refine ⟨?_, HKW.out.trans (HKR.out.trans HKw3.out)⟩
                                    rw [HX.out, HG.out, HSUB.out, HFN.out, HRX.out, if_neg HZ.out]
                                    rfl
                                · rw [if_neg fB] at HRX
                                  have fB2 : fitS fbb wd = false := by simpa using fB
                                  rw [fB2]
                                  clear FB fB fB2
                                  go_wp2_with fail
                                  go_ret
                                  refine ⟨?_, HKW.out.trans (HKR.out.trans HKw2.out)⟩
                                  rw [HX.out, HG.out, HSUB.out, HFN.out, HRX.out, if_neg (by decide)]
                                  rfl
                              · rw [if_neg fA] at HRX
                                have fA2 : fitS fa wd = false := by simpa using fA
                                rw [fA2]
                                clear FA fA fA2
                                go_wp2_with fail
                                go_ret
                                refine ⟨?_, HKW.out.trans (HKR.out.trans HKw2.out)⟩
                                rw [HX.out, HG.out, HSUB.out, HFN.out, HRX.out, if_neg (by decide)]
                                rfl
                            · rw [if_neg cz] at HRX
                              have cz2 : ((ce : Int) == 0) = false := by simp; omega
                              have cz3 : ((ce : Int) != 0) = true := by simp; omega
                              have HCZ := Hid.mk cz
                              clear cz
                              go_wp2_with fail
                              go_ret
                              refine ⟨?_, HKW.out.trans (HKR.out.trans HKw2.out)⟩
                              rw [HX.out, HG.out, HSUB.out, HFN.out, HRX.out, if_neg HCZ.out]
                              rfl
                        · rw [if_neg s0] at HRX
                          have s1 : ((nl : Int) == 0) = false := by simp; omega
                          clear s0
                          go_wp2_with fail
                          go_ret
                          refine ⟨?_, HKW.out.trans HKR.out⟩
                          rw [HX.out, HG.out, HSUB.out, HFN.out, HRX.out, if_neg (by decide)]
                          rfl
                      · rw [if_neg n0] at HRX
                        have n1 : ((n : Int) == 0) = false := by simp; omega
                        clear n0
                        go_wp2_with fail
                        go_ret
                        refine ⟨?_, HKW.out.trans HKR.out⟩
                        rw [HX.out, HG.out, HSUB.out, HFN.out, HRX.out, if_neg (by decide)]
                        rfl
                  · by_cases k4 : fk = 4
                    · as_aux_lemma =>
                        subst k4
                        rw [ckS_4 rfl, HWL.out] at HRX
                        by_cases n0 : n = 1
                        · rw [if_pos n0] at HRX
                          subst n0
                          by_cases s0 : nt + nl = 0
                          · rw [if_pos s0] at HRX
                            obtain ⟨rfl, rfl⟩ : nt = 0 ∧ nl = 0 := by omega
                            obtain ⟨b, o, ha, hkd⟩ := KID.out 0 (by decide)
                            subst ha
                            simp only [Nat.zero_mul, Nat.one_mul, Nat.add_zero, Nat.reduceMul] at hkd
                            have HKD := Hid.mk hkd
                            have hc0 := hkd wr (Keep.refl wr)
                            clear hkd
                            generalize ks.getD 0 0 = a0 at *
                            by_cases a1 : a0 = 1
                            · subst a1
                              rw [if_pos rfl] at HRX
                              have CE := CEL2.out wr (Keep.refl wr) fc 2 1 r2 ⟨by decide, by decide⟩
                              go_wp2_with fail
                              refine (CE).mono ?_
                              rintro e w2 ⟨rfl, kk⟩
                              have HKw2 := Hid.mk ((Keep.refl wr).trans kk)
                              obtain ⟨hd9, hq9⟩ := HDS.out w2 HKw2.out
                              obtain ⟨d0, d1, d2, d3, d4, d5, d6, d7, d8⟩ := prC_cells hd9
                              obtain ⟨q0, q1, q2, q3, q4, q5, q6, q7⟩ := sfC_cells hq9
                              clear kk hd9 hq9
                              clear CE
                              by_cases z : cellsF cs fc 2 1 true = 0
                              · rw [z] at HRX ⊢
                                have HZ := Hid.mk z
                                clear z
                                go_wp2_with fail
                                go_roundg (t.toL.length - (k + 1))
                                case measure => have := HK.out; omega
                                case rel => exact ⟨k + 1, by have := HK.out; omega, by go_num, HKR.out.trans HKw2.out, by rw [HG.out, HSUB.out, HFN.out, HRX.out, if_pos rfl]⟩
                              · have z2 : (((cellsF cs fc 2 1 true : Nat) : Int) == 0) = false := by simp; omega
                                have z3 : (((cellsF cs fc 2 1 true : Nat) : Int) != 0) = true := by simp; omega
                                have HZ := Hid.mk z
                                clear z
                                go_wp2_with fail
                                go_ret
                                refine ⟨?_, HKW.out.trans (HKR.out.trans HKw2.out)⟩
                                rw [HX.out, HG.out, HSUB.out, HFN.out, HRX.out, if_neg HZ.out]
                                rfl
                            · rw [if_neg a1] at HRX
                              have a2 : (a0 == 1) = false := by simpa using a1
                              clear a1
                              go_wp2_with fail
                              go_ret
                              refine ⟨?_, HKW.out.trans HKR.out⟩
                              rw [HX.out, HG.out, HSUB.out, HFN.out, HRX.out, if_neg (by decide)]
                              rfl
                          · rw [if_neg s0] at HRX
                            have s1 : ((nt : Int) + nl == 0) = false := by simp; omega
                            clear s0
                            go_wp2_with fail
                            go_ret
                            refine ⟨?_, HKW.out.trans HKR.out⟩
                            rw [HX.out, HG.out, HSUB.out, HFN.out, HRX.out, if_neg (by decide)]
                            rfl
                        · rw [if_neg n0] at HRX
                          have n1 : ((n : Int) == 1) = false := by simp; omega
                          clear n0
                          go_wp2_with fail
                          go_ret
                          refine ⟨?_, HKW.out.trans HKR.out⟩
                          rw [HX.out, HG.out, HSUB.out, HFN.out, HRX.out, if_neg (by decide)]
                          rfl
                    · by_cases k5 : fk = 5
                      · as_aux_lemma =>
                          subst k5
                          rw [ckS_5 rfl, HWL.out] at HRX
                          by_cases n0 : n = 3
                          · rw [if_pos n0] at HRX
                            subst n0
                            by_cases s0 : nt + nl = 0
                            · rw [if_pos s0] at HRX
                              obtain ⟨rfl, rfl⟩ : nt = 0 ∧ nl = 0 := by omega
                              obtain ⟨b, o, ha, hkd⟩ := KID.out 0 (by decide)
                              subst ha
                              simp only [Nat.zero_mul, Nat.one_mul, Nat.add_zero, Nat.reduceMul] at hkd
                              have HKD := Hid.mk hkd
                              have hc0 := hkd wr (Keep.refl wr)
                              clear hkd
                              obtain ⟨b', o', ha', hkd'⟩ := KID.out 1 (by decide)
                              obtain ⟨rfl, rfl⟩ : b = b' ∧ o = o' := by simpa using ha'
                              simp only [Nat.zero_mul, Nat.one_mul, Nat.add_zero, Nat.reduceMul] at hkd'
                              have HKD1 := Hid.mk hkd'
                              have hc1 := hkd' wr (Keep.refl wr)
                              clear hkd' ha'
                              obtain ⟨b', o', ha', hkd'⟩ := KID.out 2 (by decide)
                              obtain ⟨rfl, rfl⟩ : b = b' ∧ o = o' := by simpa using ha'
                              simp only [Nat.zero_mul, Nat.one_mul, Nat.add_zero, Nat.reduceMul] at hkd'
                              have HKD2 := Hid.mk hkd'
                              have hc2 := hkd' wr (Keep.refl wr)
                              clear hkd' ha'
                              generalize ks.getD 0 0 = a0 at *
                              generalize ks.getD 1 0 = a1 at *
                              generalize ks.getD 2 0 = a2 at *
                              by_cases b1 : a0 = 1
                              · subst b1
                                rw [if_pos rfl] at HRX
                                by_cases b2 : a1 = a2
                                · subst b2
                                  rw [if_pos rfl] at HRX
                                  have HSS : Hid (∀ w', Keep wr w' → w'.cell? ⟨gP, 0, none⟩ = some (.slice ca cs.length cc) ∧ w'.cell? ⟨gP, 1, none⟩ = some (.slice ba bn bc) ∧ w'.cell? ⟨gP, 2, none⟩ = some (.int .i64 fb.k) ∧ w'.cell? ⟨gP, 3, none⟩ = some (.int .i64 fb.w) ∧ w'.cell? ⟨gP, 4, none⟩ = some (.int .i64 fb.o) ∧ w'.cell? ⟨gP, 5, none⟩ = some (.int .u64 (fb.v : Nat)) ∧ w'.cell? ⟨gP, 6, none⟩ = some (.int .i64 fb.c) ∧ w'.cell? ⟨gP, 7, none⟩ = some (.int .i64 fb.l) ∧ w'.cell? ⟨gP, 8, none⟩ = some (.slice ka kn kc) ∧ w'.cell? ⟨gQ, 1, none⟩ = some (.int .i64 fc) ∧ w'.cell? ⟨gQ, 2, none⟩ = some (.int .i64 fl) ∧ w'.cell? ⟨gQ, 5, none⟩ = some (.slice (some ⟨b, o, none⟩) 3 ec) ∧ w'.cell? ⟨b, o + 7 + 1, none⟩ = some (.int .i64 a1)) := Hid.mk (fun Z kz => by
                                    obtain ⟨hd9, hq9⟩ := HDS.out Z kz
                                    obtain ⟨d0, d1, d2, d3, d4, d5, d6, d7, d8⟩ := prC_cells hd9
                                    obtain ⟨q0, q1, q2, q3, q4, q5, q6, q7⟩ := sfC_cells hq9
                                    exact ⟨d0, d1, d2, d3, d4, d5, d6, d7, d8, q1, q2, q5, HKD1.out Z kz⟩)
                                  have HCE := Hid.mk (fun Z (kz : Keep wr Z) => BLK2.out Z kz fc a1 2 r2 (Or.inl rfl))
                                  clear BLK2 CEL2 HTH HEL2
                                  go_wp2_with fail
                                  go_quiet (fail)
                                  go_wp2_with fail
                                  go_region_held3 (fun w' => w'.cell? ⟨gP, 0, none⟩ = some (.slice ca cs.length cc) ∧ w'.cell? ⟨gP, 1, none⟩ = some (.slice ba bn bc) ∧ w'.cell? ⟨gP, 2, none⟩ = some (.int .i64 fb.k) ∧ w'.cell? ⟨gP, 3, none⟩ = some (.int .i64 fb.w) ∧ w'.cell? ⟨gP, 4, none⟩ = some (.int .i64 fb.o) ∧ w'.cell? ⟨gP, 5, none⟩ = some (.int .u64 (fb.v : Nat)) ∧ w'.cell? ⟨gP, 6, none⟩ = some (.int .i64 fb.c) ∧ w'.cell? ⟨gP, 7, none⟩ = some (.int .i64 fb.l) ∧ w'.cell? ⟨gP, 8, none⟩ = some (.slice ka kn kc) ∧ w'.cell? ⟨gQ, 1, none⟩ = some (.int .i64 fc) ∧ w'.cell? ⟨gQ, 2, none⟩ = some (.int .i64 fl) ∧ w'.cell? ⟨gQ, 5, none⟩ = some (.slice (some ⟨b, o, none⟩) 3 ec) ∧ w'.cell? ⟨b, o + 7 + 1, none⟩ = some (.int .i64 a1)) (first | exact HSS.out _ (((Keep.refl wr).drewN _).drew) | exact HSS.out _ ((((Keep.refl wr).drewN _).drew).trans k2)) (first | (go_at_call 86; refine (HCE.out _ (((Keep.refl wr).drewN _).drew)).mono ?_; rintro e w2 ⟨rfl, k2⟩))
                                  have HKw2 := Hid.mk ((((Keep.refl wr).drewN _).drew).trans k2)
                                  clear k2 HCE HSS
                                  by_cases z : blockF cs fc a1 2 = 0
                                  · rw [z] at HRX ⊢
                                    have HZ := Hid.mk z
                                    clear z
                                    go_wp2_with fail
                                    go_roundg (t.toL.length - (k + 1))
                                    case measure => have := HK.out; omega
                                    case rel => exact ⟨k + 1, by have := HK.out; omega, by go_num, HKR.out.trans HKw2.out, by rw [HG.out, HSUB.out, HFN.out, HRX.out, if_pos rfl]⟩
                                  · have z2 : (((blockF cs fc a1 2 : Nat) : Int) == 0) = false := by simp; omega
                                    have z3 : (((blockF cs fc a1 2 : Nat) : Int) != 0) = true := by simp; omega
                                    have HZ := Hid.mk z
                                    clear z
                                    go_wp2_with fail
                                    go_ret
                                    refine ⟨?_, HKW.out.trans (HKR.out.trans HKw2.out)⟩
                                    rw [HX.out, HG.out, HSUB.out, HFN.out, HRX.out, if_neg HZ.out]
                                    rfl
                                · rw [if_neg b2] at HRX
                                  have b3 : (a1 == a2) = false := by simpa using b2
                                  clear b2
                                  go_wp2_with fail
                                  go_quiet (fail)
                                  go_wp2_with fail
                                  go_ret
                                  refine ⟨?_, (HKW.out.trans HKR.out).drewN _⟩
                                  rw [HX.out, HG.out, HSUB.out, HFN.out, HRX.out, if_neg (by decide)]
                                  rfl
                              · rw [if_neg b1] at HRX
                                have b3 : (a0 == 1) = false := by simpa using b1
                                clear b1
                                go_wp2_with fail
                                go_quiet (fail)
                                go_wp2_with fail
                                go_ret
                                refine ⟨?_, (HKW.out.trans HKR.out).drewN _⟩
                                rw [HX.out, HG.out, HSUB.out, HFN.out, HRX.out, if_neg (by decide)]
                                rfl
                            · rw [if_neg s0] at HRX
                              have s1 : ((nt : Int) + nl == 0) = false := by simp; omega
                              clear s0
                              go_wp2_with fail
                              go_quiet (fail)
                              go_wp2_with fail
                              go_ret
                              refine ⟨?_, (HKW.out.trans HKR.out).drewN _⟩
                              rw [HX.out, HG.out, HSUB.out, HFN.out, HRX.out, if_neg (by decide)]
                              rfl
                          · rw [if_neg n0] at HRX
                            have n1 : ((n : Int) == 3) = false := by simp; omega
                            clear n0
                            go_wp2_with fail
                            go_quiet (fail)
                            go_wp2_with fail
                            go_ret
                            refine ⟨?_, (HKW.out.trans HKR.out).drewN _⟩
                            rw [HX.out, HG.out, HSUB.out, HFN.out, HRX.out, if_neg (by decide)]
                            rfl
                      · by_cases k6 : fk = 6
                        · as_aux_lemma =>
                            subst k6
                            rw [ckS_6 rfl, HWL.out] at HRX
                            by_cases n0 : n = 3
                            · rw [if_pos n0] at HRX
                              subst n0
                              by_cases s0 : nt + nl = 0
                              · rw [if_pos s0] at HRX
                                obtain ⟨rfl, rfl⟩ : nt = 0 ∧ nl = 0 := by omega
                                obtain ⟨b, o, ha, hkd⟩ := KID.out 0 (by decide)
                                subst ha
                                simp only [Nat.zero_mul, Nat.one_mul, Nat.add_zero, Nat.reduceMul] at hkd
                                have HKD := Hid.mk hkd
                                have hc0 := hkd wr (Keep.refl wr)
                                clear hkd
                                obtain ⟨b', o', ha', hkd'⟩ := KID.out 1 (by decide)
                                obtain ⟨rfl, rfl⟩ : b = b' ∧ o = o' := by simpa using ha'
                                simp only [Nat.zero_mul, Nat.one_mul, Nat.add_zero, Nat.reduceMul] at hkd'
                                have HKD1 := Hid.mk hkd'
                                have hc1 := hkd' wr (Keep.refl wr)
                                clear hkd' ha'
                                obtain ⟨b', o', ha', hkd'⟩ := KID.out 2 (by decide)
                                obtain ⟨rfl, rfl⟩ : b = b' ∧ o = o' := by simpa using ha'
                                simp only [Nat.zero_mul, Nat.one_mul, Nat.add_zero, Nat.reduceMul] at hkd'
                                have HKD2 := Hid.mk hkd'
                                have hc2 := hkd' wr (Keep.refl wr)
                                clear hkd' ha'
                                generalize ks.getD 0 0 = a0 at *
                                generalize ks.getD 1 0 = a1 at *
                                generalize ks.getD 2 0 = a2 at *
                                by_cases b1 : a0 = 1
                                · subst b1
                                  rw [if_pos rfl] at HRX
                                  by_cases b2 : a1 = 1
                                  · subst b2
                                    rw [if_pos rfl] at HRX
                                    have HSS : Hid (∀ w', Keep wr w' → w'.cell? ⟨gP, 0, none⟩ = some (.slice ca cs.length cc) ∧ w'.cell? ⟨gP, 1, none⟩ = some (.slice ba bn bc) ∧ w'.cell? ⟨gP, 2, none⟩ = some (.int .i64 fb.k) ∧ w'.cell? ⟨gP, 3, none⟩ = some (.int .i64 fb.w) ∧ w'.cell? ⟨gP, 4, none⟩ = some (.int .i64 fb.o) ∧ w'.cell? ⟨gP, 5, none⟩ = some (.int .u64 (fb.v : Nat)) ∧ w'.cell? ⟨gP, 6, none⟩ = some (.int .i64 fb.c) ∧ w'.cell? ⟨gP, 7, none⟩ = some (.int .i64 fb.l) ∧ w'.cell? ⟨gP, 8, none⟩ = some (.slice ka kn kc) ∧ w'.cell? ⟨gQ, 1, none⟩ = some (.int .i64 fc) ∧ w'.cell? ⟨gQ, 2, none⟩ = some (.int .i64 fl) ∧ w'.cell? ⟨gQ, 5, none⟩ = some (.slice (some ⟨b, o, none⟩) 3 ec) ∧ w'.cell? ⟨b, o + 14 + 1, none⟩ = some (.int .i64 a2)) := Hid.mk (fun Z kz => by
                                      obtain ⟨hd9, hq9⟩ := HDS.out Z kz
                                      obtain ⟨d0, d1, d2, d3, d4, d5, d6, d7, d8⟩ := prC_cells hd9
                                      obtain ⟨q0, q1, q2, q3, q4, q5, q6, q7⟩ := sfC_cells hq9
                                      exact ⟨d0, d1, d2, d3, d4, d5, d6, d7, d8, q1, q2, q5, HKD2.out Z kz⟩)
                                    have HCE := Hid.mk (fun Z (kz : Keep wr Z) => BLK2.out Z kz fc a2 3 r2 (Or.inr rfl))
                                    clear BLK2 CEL2 HTH HEL2
                                    go_wp2_with fail
                                    go_region_held3 (fun w' => w'.cell? ⟨gP, 0, none⟩ = some (.slice ca cs.length cc) ∧ w'.cell? ⟨gP, 1, none⟩ = some (.slice ba bn bc) ∧ w'.cell? ⟨gP, 2, none⟩ = some (.int .i64 fb.k) ∧ w'.cell? ⟨gP, 3, none⟩ = some (.int .i64 fb.w) ∧ w'.cell? ⟨gP, 4, none⟩ = some (.int .i64 fb.o) ∧ w'.cell? ⟨gP, 5, none⟩ = some (.int .u64 (fb.v : Nat)) ∧ w'.cell? ⟨gP, 6, none⟩ = some (.int .i64 fb.c) ∧ w'.cell? ⟨gP, 7, none⟩ = some (.int .i64 fb.l) ∧ w'.cell? ⟨gP, 8, none⟩ = some (.slice ka kn kc) ∧ w'.cell? ⟨gQ, 1, none⟩ = some (.int .i64 fc) ∧ w'.cell? ⟨gQ, 2, none⟩ = some (.int .i64 fl) ∧ w'.cell? ⟨gQ, 5, none⟩ = some (.slice (some ⟨b, o, none⟩) 3 ec) ∧ w'.cell? ⟨b, o + 14 + 1, none⟩ = some (.int .i64 a2)) (first | exact HSS.out _ ((Keep.refl wr).drew) | exact HSS.out _ (((Keep.refl wr).drew).trans k2)) (first | (go_at_call 86; refine (HCE.out _ ((Keep.refl wr).drew)).mono ?_; rintro e w2 ⟨rfl, k2⟩))
                                    have HKw2 := Hid.mk (((Keep.refl wr).drew).trans k2)
                                    clear k2 HCE HSS
                                    by_cases z : blockF cs fc a2 3 = 0
                                    · rw [z] at HRX ⊢
                                      have HZ := Hid.mk z
                                      clear z
                                      go_wp2_with fail
                                      go_roundg (t.toL.length - (k + 1))
                                      case measure => have := HK.out; omega
                                      case rel => exact ⟨k + 1, by have := HK.out; omega, by go_num, HKR.out.trans HKw2.out, by rw [HG.out, HSUB.out, HFN.out, HRX.out, if_pos rfl]⟩
                                    · have z2 : (((blockF cs fc a2 3 : Nat) : Int) == 0) = false := by simp; omega
                                      have z3 : (((blockF cs fc a2 3 : Nat) : Int) != 0) = true := by simp; omega
                                      have HZ := Hid.mk z
                                      clear z
                                      go_wp2_with fail
                                      go_ret
                                      refine ⟨?_, HKW.out.trans (HKR.out.trans HKw2.out)⟩
                                      rw [HX.out, HG.out, HSUB.out, HFN.out, HRX.out, if_neg HZ.out]
                                      rfl
                                  · rw [if_neg b2] at HRX
                                    have b3 : (a1 == 1) = false := by simpa using b2
                                    clear b2
                                    go_wp2_with fail
                                    go_ret
                                    refine ⟨?_, HKW.out.trans HKR.out⟩
                                    rw [HX.out, HG.out, HSUB.out, HFN.out, HRX.out, if_neg (by decide)]
                                    rfl
                                · rw [if_neg b1] at HRX
                                  have b3 : (a0 == 1) = false := by simpa using b1
                                  clear b1
                                  go_wp2_with fail
                                  go_ret
                                  refine ⟨?_, HKW.out.trans HKR.out⟩
                                  rw [HX.out, HG.out, HSUB.out, HFN.out, HRX.out, if_neg (by decide)]
                                  rfl
                              · rw [if_neg s0] at HRX
                                have s1 : ((nt : Int) + nl == 0) = false := by simp; omega
                                clear s0
                                go_wp2_with fail
                                go_ret
                                refine ⟨?_, HKW.out.trans HKR.out⟩
                                rw [HX.out, HG.out, HSUB.out, HFN.out, HRX.out, if_neg (by decide)]
                                rfl
                            · rw [if_neg n0] at HRX
                              have n1 : ((n : Int) == 3) = false := by simp; omega
                              clear n0
                              go_wp2_with fail
                              go_ret
                              refine ⟨?_, HKW.out.trans HKR.out⟩
                              rw [HX.out, HG.out, HSUB.out, HFN.out, HRX.out, if_neg (by decide)]
                              rfl
                        · as_aux_lemma =>
                            rw [ckS_7 k0 k1 k2 k3 k4 k5 k6] at HRX
                            have m0 : (fk == 0) = false := by simpa using k0
                            have m1 : (fk == 1) = false := by simpa using k1
                            have m2 : (fk == 2) = false := by simpa using k2
                            have m3 : (fk == 3) = false := by simpa using k3
                            have m4 : (fk == 4) = false := by simpa using k4
                            have m5 : (fk == 5) = false := by simpa using k5
                            have m6 : (fk == 6) = false := by simpa using k6
                            clear k0 k1 k2 k3 k4 k5 k6
                            go_wp2_with fail
                            go_ret
                            refine ⟨?_, HKW.out.trans HKR.out⟩
                            rw [HX.out, HG.out, HSUB.out, HFN.out, HRX.out, if_neg (by decide)]
                            rfl
      · have j1 : ¬ (k : Int) < t.toL.length := by omega
        obtain rfl : k = t.toL.length := by omega
        have hz : firstNZ (t.toL.map (ckSX cs)) = 0 := by rw [hG, List.drop_of_length_le (by simp)]; rfl
        have HZ := Hid.mk hz
        clear hk kp hG hz HG
        go_wp2_with fail
        go_ret
        exact ⟨by rw [HX.out, HZ.out]; rfl, HKW.out.trans HKP.out⟩
theorem checkStmts_c {P : Nat → Prop} {cs : List Cel} (hcl : cs.length ≤ 1000000) (hcw : ∀ c ∈ cs, 1 ≤ c.w ∧ c.w ≤ 64) {fb : EF} {t : SL} (hN : t.size ≤ 1000000) {w : World} {cv bv kb v : Value} {rows : List (List Value)} (h1 : CsW P w cv cs) (h2 : isSl bv) (h3 : isSl kb) (h4 : Rows P w v 8 rows) (h5 : SLW P w t rows) : Calls Try.prog 57 #[prA cv bv fb kb, v] w fun e w' => e = .returned (.int .i64 ((ckSL cs t : Nat) : Int)) ∧ Keep w w' := checkStmts_n hcl hcw fb t.size t rfl hN w cv bv kb v rows h1 h2 h3 h4 h5
end Go.Proofs.Qxb6500772a
