/- corem: Check. -/
import Derived.Test.Qxb6500772aTj
import Derived.Test.Qxb6500772aTg
namespace Go.Proofs.Qxb6500772a
open Go.RowKit Go.Qm
set_option linter.unusedVariables false
set_option linter.unusedSimpArgs false
set_option linter.unnecessarySimpa false
attribute [local go_sem ↓] Go.wp_at_zero Go.wp_at_succ
structure CelOK (c : Cel) : Prop where
  w1 : 1 ≤ c.w
  w2 : c.w ≤ 64
  ini : c.ini < 2 ^ c.w.toNat
  inp : c.inp = true → c.ini = 0
  st : c.inp = false → c.lo = 0 ∧ c.hi = 0
  lh : c.lo ≤ c.hi
  lo : fitS c.lo c.w.toNat = true
  hi : fitS c.hi c.w.toNat = true
structure CelR (c : Cel) : Prop where
  w : I64 c.w
  ini : c.ini < 2 ^ 64
  lo : I64 c.lo
  hi : I64 c.hi
open Classical in
noncomputable def ckCs (cs : List Cel) : Nat := if ∀ c ∈ cs, CelOK c then 0 else 1
open Classical in
noncomputable def ckP (cs : List Cel) (body : SL) (f : EF) (t : EL) : Nat :=
  if 256 < cs.length then 4
  else if ckCs cs = 0 then
    (if ckSL cs body = 0 then
      (if ckX cs (f, t) = 0 then
        (if f.w = 1 then
          (if cbX cs (f, t) = 0 then
            (if 4096 < (stS cs.length body (0, 0)).1 + stE (.cons f t .nil) 0 then 4 else 0)
          else cbX cs (f, t))
        else 2)
      else ckX cs (f, t))
    else ckSL cs body)
  else 1
theorem Rows.weak {P Q : Nat → Prop} (h : ∀ q, P q → Q q) {w : World} {v : Value} {sz : Nat} {rows : List (List Value)} (hr : Rows P w v sz rows) : Rows Q w v sz rows := by
  obtain ⟨a, c, e, h1, h2, h3⟩ := hr
  exact ⟨a, c, e, h1, h2, fun i hi => by
    obtain ⟨b, o, ha, hp, hb⟩ := h3 i hi
    exact ⟨b, o, ha, h b hp, hb⟩⟩
theorem ELW.weak {P Q : Nat → Prop} (h : ∀ q, P q → Q q) {w : World} : ∀ {t : EL} {rows : List (List Value)}, ELW P w t rows → ELW Q w t rows
  | .nil, _, hr => hr
  | .cons f k r, rows, hr => by
    obtain ⟨kv, kr, rs, e, h0, h1, h2, h3⟩ := hr
    exact ⟨kv, kr, rs, e, h0, h1.weak h, ELW.weak h h2, ELW.weak h h3⟩
theorem Rows.one {w : World} (r : List Value) : Rows (fun _ => True) (w.alloc (.cells r.toArray 31)) (.slice (some ⟨w.heap.size, 0, none⟩) 1 1) r.length [r] := by
  refine ⟨_, 1, rfl, Nat.le_refl _, by simp [maxLen], fun i hi => ?_⟩
  obtain rfl : i = 0 := by simpa using hi
  refine ⟨w.heap.size, 0, rfl, trivial, by simp, fun j hj => ?_⟩
  have := (Arr.new w 31 r).cell j
  simpa using this
set_option maxRecDepth 6000 in
set_option maxHeartbeats 8000000 in
theorem check_c {P : Nat → Prop} {cs : List Cel} {body : SL} {f : EF} {t : EL} (hcl : cs.length ≤ 1000000) (hcr : ∀ c ∈ cs, CelR c) (hN : body.size ≤ 1000000) {w : World} {cv bv v : Value} {brows rows : List (List Value)} (hc : CsW P w cv cs) (hb1 : Rows P w bv 8 brows) (hb2 : SLW P w body brows) (hf : EFr f) (hr : Rows P w v 7 rows) (he : ELW P w t rows) :
    Calls Try.prog 23 #[prA cv bv f v] w fun e w' => e = .returned (.int .i64 ((ckP cs body f t : Nat) : Int)) ∧ Keep w w' := by
  have hbs := hb1.sl
  have hks := hr.sl
  have CST : Hid ((∀ c ∈ cs, 1 ≤ c.w ∧ c.w ≤ 64) → ∀ W, Keep w W → Calls Try.prog 57 #[prA cv bv f v, bv] W fun e w' => e = .returned (.int .i64 ((ckSL cs body : Nat) : Int)) ∧ Keep W w') := Hid.mk (fun h W k => checkStmts_c hcl h hN (hc.step (KP.of k)) hbs hks (hb1.step (KP.of k)) (hb2.step (KP.of k)))
  have CEX : Hid (∀ W, Keep w W → Calls Try.prog 58 #[prA cv bv f v, efA f v] W fun e w' => e = .returned (.int .i64 ((ckX cs (f, t) : Nat) : Int)) ∧ Keep W w') := Hid.mk (fun W k => checkExpr_c hcl (hc.step (KP.of k)) hbs hks hf (hr.step (KP.of k)) (he.step (KP.of k)))
  have CBD : Hid (ckX cs (f, t) = 0 → ∀ W, Keep w W → Calls Try.prog 59 #[prA cv bv f v, efA f v] W fun e w' => e = .returned (.int .i64 ((cbX cs (f, t) : Nat) : Int)) ∧ Keep W w') := Hid.mk (fun h W k => by
    have hx : ckL cs t = 0 ∧ ckOwn cs f t.ws = 0 := by
      change (if ckL cs t = 0 then ckOwn cs f t.ws else ckL cs t) = 0 at h
      by_cases h1 : ckL cs t = 0
      · rw [if_pos h1] at h; exact ⟨h1, h⟩
      · rw [if_neg h1] at h; exact absurd h h1
    exact checkBad_c hcl (hc.step (KP.of k)) hbs hks hf (hr.step (KP.of k)) (he.step (KP.of k)) (ckL_wt hx.1) (ckOwn_wt hx.2))
  have CSP : Hid (∀ W, Keep w W → Calls Try.prog 60 #[prA cv bv f v, bv] W fun e w' => e = .returned (.tuple #[.int .i64 (((stS cs.length body (0, 0)).1 : Nat) : Int), .int .i64 (((stS cs.length body (0, 0)).2 : Nat) : Int)]) ∧ Keep W w') := Hid.mk (fun W k => steps_c hcl (hc.step (KP.of k)) hbs hks (hb1.step (KP.of k)) (hb2.step (KP.of k)))
  have CES : Hid (∀ W, Keep w W → Calls Try.prog 61 #[.slice (some ⟨W.heap.size, 0, none⟩) 1 1] (W.alloc (.cells (EfC f v).toArray 31)) fun e w' => e = .returned (.int .i64 ((stE (.cons f t .nil) 0 : Nat) : Int)) ∧ Keep (W.alloc (.cells (EfC f v).toArray 31)) w') := Hid.mk (fun W k => exprSteps_c (P := fun _ => True) (Rows.one (EfC f v)) ⟨v, rows, [], rfl, hf, (hr.step (KP.of (k.alloc _))).weak (fun _ _ => trivial), (he.step (KP.of (k.alloc _))).weak (fun _ _ => trivial), rfl⟩)
  obtain ⟨ca, cc, hcv, cv1, cv2⟩ := hc.form
  subst hcv
  obtain ⟨ba, bc, hbv, bv1, bv2⟩ := hb1.form
  subst hbv
  obtain ⟨va, vc, hvv, vv1, vv2⟩ := hr.form
  subst hvv
  unfold maxLen at cv2 bv2 vv2
  have HC := Hid.mk hc
  have HF := Hid.mk hf
  have HCR := Hid.mk hcr
  have HX : Hid (ckP cs body f t = _) := Hid.mk (by unfold ckP; rfl)
  generalize ckP cs body f t = res at *
  have hcli : (cs.length : Int) ≤ 1000000 := by omega
  have hs1 := (stS_le cs.length body).1
  have hs2 := stE_le (.cons f t .nil)
  generalize stS cs.length body (0, 0) = sw at *
  obtain ⟨st1, st2⟩ := sw
  generalize stE (.cons f t .nil) 0 = se at *
  generalize ckSL cs body = r1 at *
  generalize ckX cs (f, t) = r2 at *
  generalize cbX cs (f, t) = r3 at *
  simp only at *
  have hs1i : (st1 : Int) ≤ 4097 := by omega
  have hs2i : (se : Int) ≤ 4097 := by omega
  clear hc hf hcr hr he hb1 hb2 hbs hks hs1 hs2
  simp only [prA, efA, EfC] at *
  obtain ⟨W, hW⟩ : ∃ W, W = w.alloc (.cells #[.slice ca cs.length cc, .slice ba brows.length bc, .int .i64 f.k, .int .i64 f.w, .int .i64 f.o, .int .u64 (f.v : Nat), .int .i64 f.c, .int .i64 f.l, .slice va rows.length vc] 33) := ⟨_, rfl⟩
  have kW : Keep w W := by rw [hW]; exact (Keep.refl w).alloc _
  have aP : Arr W w.heap.size 33 (PrC (.slice ca cs.length cc) (.slice ba brows.length bc) f (.slice va rows.length vc)) := by rw [hW]; exact Arr.new w 33 _
  have HKW := Hid.mk kW
  have HAP := Hid.mk aP
  obtain ⟨d0, d1, d2, d3, d4, d5, d6, d7, d8⟩ := prC_cells aP
  clear kW aP
  go_enter Try.func23, Try.ntmps23
  go_upto_region 1 with fail
  rw [← hW]
  generalize w.heap.size = gP at *
  clear hW
  by_cases big : 256 < cs.length
  · rw [if_pos big] at HX
    have bi : (256 : Int) < cs.length := by omega
    go_wp2_with fail
    go_ret
    exact ⟨by rw [HX.out]; rfl, HKW.out⟩
  rw [if_neg big] at HX
  have bi : ¬ (256 : Int) < cs.length := by omega
  go_wp2_with fail
  go_loopg [4, 17] cs.length (fun gk v4 v17 wr => ∃ (k : Nat), k + gk = cs.length ∧ v17 = .int .i64 k ∧ Keep W wr ∧ ∀ c ∈ cs.take k, CelOK c)
  case atStart => exact ⟨0, by omega, rfl, Keep.refl W, fun c hc => by simp at hc⟩
  case round =>
    obtain ⟨k, hk, rfl, kp, hG⟩ := hrel
    have HK := Hid.mk hk
    have HKP := Hid.mk kp
    have HG := Hid.mk hG
    by_cases hlt : k < cs.length
    · have j1 : (k : Int) < cs.length := by omega
      have j2 : (0 : Int) ≤ k := by omega
      obtain ⟨b, o, hca, hcl2⟩ := (HC.out.step (KP.of (HKW.out.trans kp))).cell hlt
      subst hca
      have c0 := hcl2 0 (by decide)
      have c1 := hcl2 1 (by decide)
      have c2 := hcl2 2 (by decide)
      have c3 := hcl2 3 (by decide)
      have c4 := hcl2 4 (by decide)
      have hcr := HCR.out cs[k] (List.getElem_mem hlt)
      have HNB : Hid (¬ CelOK cs[k] → ckCs cs = 1) := Hid.mk (fun h => by unfold ckCs; rw [if_neg (fun a => h (a _ (List.getElem_mem hlt)))])
      have HTK : Hid (CelOK cs[k] → ∀ c ∈ cs.take (k + 1), CelOK c) := Hid.mk (fun h c hc => by
        rw [List.take_succ_eq_append_getElem hlt] at hc
        rcases List.mem_append.1 hc with a | a
        · exact HG.out c a
        · rw [List.mem_singleton.1 a]; exact h)
      generalize cs[k] = ce at *
      obtain ⟨cw, ci, cini, clo, chi⟩ := ce
      obtain ⟨cr1, cr2, cr3, cr4⟩ := hcr
      simp only [celC, List.getElem?_cons_zero, List.getElem?_cons_succ, Nat.add_zero] at c0 c1 c2 c3 c4 cr1 cr2 cr3 cr4
      clear hcl2 hk kp hG
      go_upto_region 6 with fail
      obtain ⟨V, hV⟩ : ∃ V, V = wr.alloc (.cells #[.int .i64 cw, .bool ci, .int .u64 (cini : Nat), .int .i64 clo, .int .i64 chi] 70) := ⟨_, rfl⟩
      rw [← hV]
      have kV : Keep wr V := by rw [hV]; exact (Keep.refl wr).alloc _
      have aV : Arr V wr.heap.size 70 [.int .i64 cw, .bool ci, .int .u64 (cini : Nat), .int .i64 clo, .int .i64 chi] := by rw [hV]; exact Arr.new wr 70 _
      have e0 := aV.cell 0
      have e1 := aV.cell 1
      have e2 := aV.cell 2
      have e3 := aV.cell 3
      have e4 := aV.cell 4
      simp only [List.getElem?_cons_zero, List.getElem?_cons_succ] at e0 e1 e2 e3 e4
      have HKV := Hid.mk (HKP.out.trans kV)
      generalize wr.heap.size = gQ at *
      clear hV kV aV c0 c1 c2 c3 c4
      by_cases wb : cw < 1 ∨ 64 < cw
      · rcases wb with wb | wb
        · have HB := Hid.mk (HNB.out (fun a => by have := a.w1; simp only at this; omega))
          rw [HB.out] at HX
          rw [if_neg (by decide)] at HX
          go_wp2_with fail
          go_ret
          exact ⟨by rw [HX.out]; rfl, HKW.out.trans HKV.out⟩
        · have wb2 : ¬ cw < 1 := by omega
          have HB := Hid.mk (HNB.out (fun a => by have := a.w2; simp only at this; omega))
          rw [HB.out] at HX
          rw [if_neg (by decide)] at HX
          go_wp2_with fail
          go_ret
          exact ⟨by rw [HX.out]; rfl, HKW.out.trans HKV.out⟩
      · have hw1 : 1 ≤ cw := by omega
        have hw2 : cw ≤ 64 := by omega
        obtain ⟨wd, rfl⟩ : ∃ wd : Nat, cw = wd := ⟨cw.toNat, by omega⟩
        have W1 := Hid.mk hw1
        have W2 := Hid.mk hw2
        have FC := fits_c cini wd cr2 (by omega)
        have FL := fitsS_c clo wd (by omega) (by omega) cr3.1 cr3.2
        have FH := fitsS_c chi wd (by omega) (by omega) cr4.1 cr4.2
        clear wb cr2
        by_cases iv : cini < 2 ^ wd
        · have HI0 := Hid.mk iv
          rw [decide_eq_true iv] at FC
          clear iv
          cases ci
          · go_wp2_with fail
            refine (FC _).mono ?_
            rintro e y ⟨rfl, hy⟩
            subst hy
            by_cases l0 : clo = 0
            · by_cases h0 : chi = 0
              · subst l0 h0
                have HLE : Hid ((0 : Int) ≤ 0) := Hid.mk (by decide)
                go_wp2_with fail
                refine (FL _).mono ?_
                rintro e y ⟨rfl, hy⟩
                subst hy
                by_cases flo : fitS 0 wd = true
                · have HFLO := Hid.mk flo
                  rw [flo]
                  clear FL flo
                  go_wp2_with fail
                  refine (FH _).mono ?_
                  rintro e y ⟨rfl, hy⟩
                  subst hy
                  by_cases fh : fitS 0 wd = true
                  · have HFHI := Hid.mk fh
                    rw [fh]
                    clear FH fh
                    have HO := Hid.mk (HTK.out ⟨W1.out, W2.out, HI0.out, fun a => by simp at a, fun _ => ⟨rfl, rfl⟩, by first | exact HLE.out | decide, HFLO.out, HFHI.out⟩)
                    go_wp2_with fail
                    go_roundg (gk - 1)
                    case measure => have := HK.out; omega
                    case rel => exact ⟨k + 1, by have := HK.out; omega, by go_num, HKV.out, HO.out⟩
                  · have fh2 : fitS 0 wd = false := by simpa using fh
                    rw [fh2]
                    clear FH
                    have HB := Hid.mk (HNB.out (fun a => fh a.hi))
                    rw [HB.out] at HX
                    rw [if_neg (by decide)] at HX
                    go_wp2_with fail
                    go_ret
                    exact ⟨by rw [HX.out]; rfl, HKW.out.trans HKV.out⟩
                · have fl2 : fitS 0 wd = false := by simpa using flo
                  rw [fl2]
                  clear FL
                  have HB := Hid.mk (HNB.out (fun a => flo a.lo))
                  rw [HB.out] at HX
                  rw [if_neg (by decide)] at HX
                  go_wp2_with fail
                  go_ret
                  exact ⟨by rw [HX.out]; rfl, HKW.out.trans HKV.out⟩
              · have h2 : (chi == 0) = false := by simpa using h0
                have h3 : (chi != 0) = true := by simpa using h0
                subst l0
                have HB := Hid.mk (HNB.out (fun a => h0 (a.st rfl).2))
                rw [HB.out] at HX
                rw [if_neg (by decide)] at HX
                go_wp2_with fail
                go_ret
                exact ⟨by rw [HX.out]; rfl, HKW.out.trans HKV.out⟩
            · have h2 : (clo == 0) = false := by simpa using l0
              have h3 : (clo != 0) = true := by simpa using l0
              have HB := Hid.mk (HNB.out (fun a => l0 (a.st rfl).1))
              rw [HB.out] at HX
              rw [if_neg (by decide)] at HX
              go_wp2_with fail
              go_ret
              exact ⟨by rw [HX.out]; rfl, HKW.out.trans HKV.out⟩
          · by_cases i0 : cini = 0
            · subst i0
              go_wp2_with fail
              refine (FC _).mono ?_
              rintro e y ⟨rfl, hy⟩
              subst hy
              by_cases lh : chi < clo
              · have HB := Hid.mk (HNB.out (fun a => by have := a.lh; simp only at this; omega))
                rw [HB.out] at HX
                rw [if_neg (by decide)] at HX
                go_wp2_with fail
                go_ret
                exact ⟨by rw [HX.out]; rfl, HKW.out.trans HKV.out⟩
              · have HLE := Hid.mk (Int.not_lt.1 lh)
                have lh2 : clo ≤ chi := Int.not_lt.1 lh
                go_wp2_with fail
                refine (FL _).mono ?_
                rintro e y ⟨rfl, hy⟩
                subst hy
                by_cases flo : fitS clo wd = true
                · have HFLO := Hid.mk flo
                  rw [flo]
                  clear FL flo
                  go_wp2_with fail
                  refine (FH _).mono ?_
                  rintro e y ⟨rfl, hy⟩
                  subst hy
                  by_cases fh : fitS chi wd = true
                  · have HFHI := Hid.mk fh
                    rw [fh]
                    clear FH fh
                    have HO := Hid.mk (HTK.out ⟨W1.out, W2.out, HI0.out, fun _ => rfl, fun a => by simp at a, by first | exact HLE.out | decide, HFLO.out, HFHI.out⟩)
                    go_wp2_with fail
                    go_roundg (gk - 1)
                    case measure => have := HK.out; omega
                    case rel => exact ⟨k + 1, by have := HK.out; omega, by go_num, HKV.out, HO.out⟩
                  · have fh2 : fitS chi wd = false := by simpa using fh
                    rw [fh2]
                    clear FH
                    have HB := Hid.mk (HNB.out (fun a => fh a.hi))
                    rw [HB.out] at HX
                    rw [if_neg (by decide)] at HX
                    go_wp2_with fail
                    go_ret
                    exact ⟨by rw [HX.out]; rfl, HKW.out.trans HKV.out⟩
                · have fl2 : fitS clo wd = false := by simpa using flo
                  rw [fl2]
                  clear FL
                  have HB := Hid.mk (HNB.out (fun a => flo a.lo))
                  rw [HB.out] at HX
                  rw [if_neg (by decide)] at HX
                  go_wp2_with fail
                  go_ret
                  exact ⟨by rw [HX.out]; rfl, HKW.out.trans HKV.out⟩
            · have i2 : ((cini : Int) == 0) = false := by simp; omega
              have i3 : ((cini : Int) != 0) = true := by simp; omega
              go_wp2_with fail
              refine (FC _).mono ?_
              rintro e y ⟨rfl, hy⟩
              subst hy
              have HB := Hid.mk (HNB.out (fun a => i0 (a.inp rfl)))
              rw [HB.out] at HX
              rw [if_neg (by decide)] at HX
              go_wp2_with fail
              go_ret
              exact ⟨by rw [HX.out]; rfl, HKW.out.trans HKV.out⟩
        · rw [decide_eq_false iv] at FC
          go_wp2_with fail
          refine (FC _).mono ?_
          rintro e y ⟨rfl, hy⟩
          subst hy
          have HB := Hid.mk (HNB.out (fun a => iv a.ini))
          rw [HB.out] at HX
          rw [if_neg (by decide)] at HX
          go_wp2_with fail
          go_ret
          exact ⟨by rw [HX.out]; rfl, HKW.out.trans HKV.out⟩
    · have j1 : ¬ (k : Int) < cs.length := by omega
      obtain rfl : k = cs.length := by omega
      rw [List.take_length] at hG
      have hz : ckCs cs = 0 := by unfold ckCs; rw [if_pos hG]
      rw [if_pos hz] at HX
      have CS := CST.out (fun c hc => ⟨(hG c hc).w1, (hG c hc).w2⟩) wr (HKW.out.trans kp)
      obtain ⟨d0, d1, d2, d3, d4, d5, d6, d7, d8⟩ := prC_cells (HAP.out.keep kp)
      clear hk kp hG hz HG
      go_wp2_with fail
      refine CS.mono ?_
      rintro e w2 ⟨rfl, k2⟩
      have HK2 := Hid.mk (HKP.out.trans k2)
      obtain ⟨d0, d1, d2, d3, d4, d5, d6, d7, d8⟩ := prC_cells (HAP.out.keep HK2.out)
      clear CS k2
      by_cases z : r1 = 0
      · subst z
        rw [if_pos rfl] at HX
        have CE := CEX.out w2 (HKW.out.trans HK2.out)
        go_wp2_with fail
        refine CE.mono ?_
        rintro e w3 ⟨rfl, k3⟩
        have HK3 := Hid.mk (HK2.out.trans k3)
        obtain ⟨d0, d1, d2, d3, d4, d5, d6, d7, d8⟩ := prC_cells (HAP.out.keep HK3.out)
        clear CE k3
        by_cases z : r2 = 0
        · subst z
          rw [if_pos rfl] at HX
          by_cases fw1 : f.w = 1
          · rw [if_pos fw1] at HX
            have d3' := d3
            rw [fw1] at d3'
            have fw2 : (f.w == 1) = true := by simpa using fw1
            have fw3 : (f.w != 1) = false := by simpa using fw1
            clear d3' fw1
            have CB := CBD.out rfl w3 (HKW.out.trans HK3.out)
            go_wp2_with fail
            refine CB.mono ?_
            rintro e w4 ⟨rfl, k4⟩
            have HK4 := Hid.mk (HK3.out.trans k4)
            obtain ⟨d0, d1, d2, d3, d4, d5, d6, d7, d8⟩ := prC_cells (HAP.out.keep HK4.out)
            clear CB k4
            by_cases z : r3 = 0
            · subst z
              rw [if_pos rfl] at HX
              have CP := CSP.out w4 (HKW.out.trans HK4.out)
              go_wp2_with fail
              refine CP.mono ?_
              rintro e w5 ⟨rfl, k5⟩
              have HK5 := Hid.mk (HK4.out.trans k5)
              obtain ⟨d0, d1, d2, d3, d4, d5, d6, d7, d8⟩ := prC_cells (HAP.out.keep HK5.out)
              clear CP k5
              have CE := CES.out w5 (HKW.out.trans HK5.out)
              go_wp2_with fail
              refine CE.mono ?_
              rintro e w6 ⟨rfl, k6⟩
              have HK6 := Hid.mk (HK5.out.trans (((Keep.refl w5).alloc _).trans k6))
              clear CE k6
              by_cases sb : 4096 < st1 + se
              · rw [if_pos sb] at HX
                have sb2 : (4096 : Int) < st1 + se := by omega
                clear sb
                go_wp2_with fail
                go_ret
                exact ⟨by rw [HX.out]; rfl, HKW.out.trans HK6.out⟩
              · rw [if_neg sb] at HX
                have sb2 : ¬ (4096 : Int) < st1 + se := by omega
                clear sb
                go_wp2_with fail
                go_ret
                exact ⟨by rw [HX.out]; rfl, HKW.out.trans HK6.out⟩
            · rw [if_neg z] at HX
              have z2 : ((r3 : Int) == 0) = false := by simp; omega
              have z3 : ((r3 : Int) != 0) = true := by simp; omega
              clear z
              go_wp2_with fail
              go_ret
              exact ⟨by rw [HX.out]; rfl, HKW.out.trans HK4.out⟩
          · rw [if_neg fw1] at HX
            have fw2 : (f.w == 1) = false := by simpa using fw1
            have fw3 : (f.w != 1) = true := by simpa using fw1
            clear fw1
            go_wp2_with fail
            go_ret
            exact ⟨by rw [HX.out]; rfl, HKW.out.trans HK3.out⟩
        · rw [if_neg z] at HX
          have z2 : ((r2 : Int) == 0) = false := by simp; omega
          have z3 : ((r2 : Int) != 0) = true := by simp; omega
          clear z
          go_wp2_with fail
          go_ret
          exact ⟨by rw [HX.out]; rfl, HKW.out.trans HK3.out⟩
      · rw [if_neg z] at HX
        have z2 : ((r1 : Int) == 0) = false := by simp; omega
        have z3 : ((r1 : Int) != 0) = true := by simp; omega
        clear z
        go_wp2_with fail
        go_ret
        exact ⟨by rw [HX.out]; rfl, HKW.out.trans HK2.out⟩
end Go.Proofs.Qxb6500772a
