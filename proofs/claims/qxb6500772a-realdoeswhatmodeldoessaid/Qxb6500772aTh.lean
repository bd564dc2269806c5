/- corem: Steps. -/
import Derived.Test.Qxb6500772aTd
namespace Go.Proofs.Qxb6500772a
open Go.RowKit Go.Qm
set_option linter.unusedVariables false
set_option linter.unusedSimpArgs false
attribute [local go_sem ↓] Go.wp_at_zero Go.wp_at_succ
/-- One statement's steps and writes. -/
def stS1 (n : Nat) (f : SF) (ex : Nat) (th el : Nat × Nat) (a : Nat × Nat) : Nat × Nat :=
  if f.k = 0 then (min (a.1 + 1 + ex) 4097, min (a.2 + 1) 4097)
  else if f.k = 1 then (if 0 < f.l then (min (min (a.1 + 1 + ex) 4097 + min f.l.toNat 4097) 4097, min (a.2 + min f.l.toNat 4097) 4097) else (min (a.1 + 1 + ex) 4097, min a.2 4097))
  else if f.k = 2 then (min (min (a.1 + 1 + ex) 4097 + th.1 + el.1 + min (th.2 + el.2) n) 4097, min (a.2 + th.2 + el.2) 4097)
  else if f.k = 3 then (min (min (a.1 + 1 + ex) 4097 + itN f.a f.b * (1 + th.1)) 4097, min (a.2 + itN f.a f.b * (1 + th.2)) 4097)
  else (min (a.1 + 1 + ex) 4097, min (a.2 + 3) 4097)
def stS (n : Nat) : SL → Nat × Nat → Nat × Nat
  | .nil, a => a
  | .cons f ex th el r, a => stS n r (stS1 n f (stE ex 0) (stS n th (0, 0)) (stS n el (0, 0)) a)
def stY (n : Nat) (a : Nat × Nat) (x : SF × EL × SL × SL) : Nat × Nat := stS1 n x.1 (stE x.2.1 0) (stS n x.2.2.1 (0, 0)) (stS n x.2.2.2 (0, 0)) a
theorem stS_fold (n : Nat) : ∀ (t : SL) (a : Nat × Nat), stS n t a = t.toL.foldl (stY n) a
  | .nil, a => rfl
  | .cons f ex th el r, a => by rw [stS, SL.toL, List.foldl_cons, stS_fold n r]; rfl
theorem stS1_le (n : Nat) (f : SF) (ex : Nat) (th el a : Nat × Nat) : (stS1 n f ex th el a).1 ≤ 4097 ∧ (stS1 n f ex th el a).2 ≤ 4097 := by
  unfold stS1
  split
  · exact ⟨Nat.min_le_right _ _, Nat.min_le_right _ _⟩
  split
  · split <;> exact ⟨Nat.min_le_right _ _, Nat.min_le_right _ _⟩
  split
  · exact ⟨Nat.min_le_right _ _, Nat.min_le_right _ _⟩
  split
  · exact ⟨Nat.min_le_right _ _, Nat.min_le_right _ _⟩
  · exact ⟨Nat.min_le_right _ _, Nat.min_le_right _ _⟩
theorem stY_le (n : Nat) (l : List (SF × EL × SL × SL)) : ∀ a, a.1 ≤ 4097 ∧ a.2 ≤ 4097 → (l.foldl (stY n) a).1 ≤ 4097 ∧ (l.foldl (stY n) a).2 ≤ 4097 := by
  induction l with
  | nil => intro a h; exact h
  | cons x l ih => intro a h; rw [List.foldl_cons]; exact ih _ (stS1_le _ _ _ _ _ _)
theorem stS_le (n : Nat) (t : SL) : (stS n t (0, 0)).1 ≤ 4097 ∧ (stS n t (0, 0)).2 ≤ 4097 := by rw [stS_fold]; exact stY_le _ _ _ ⟨by omega, by omega⟩
theorem itN_le (a b : Int) : itN a b ≤ 4097 := by unfold itN; split <;> (try split) <;> omega
def SfC (f : SF) (e t l : Value) : List Value := [.int .i64 f.k, .int .i64 f.c, .int .i64 f.l, .int .i64 f.a, .int .i64 f.b, e, t, l]
theorem sfC_cells {w : World} {g : Nat} {e t l : Value} {f : SF} (h : Arr w g 109 (SfC f e t l)) : w.cell? ⟨g, 0, none⟩ = some (.int .i64 f.k) ∧ w.cell? ⟨g, 1, none⟩ = some (.int .i64 f.c) ∧ w.cell? ⟨g, 2, none⟩ = some (.int .i64 f.l) ∧ w.cell? ⟨g, 3, none⟩ = some (.int .i64 f.a) ∧ w.cell? ⟨g, 4, none⟩ = some (.int .i64 f.b) ∧ w.cell? ⟨g, 5, none⟩ = some e ∧ w.cell? ⟨g, 6, none⟩ = some t ∧ w.cell? ⟨g, 7, none⟩ = some l :=
  ⟨h.cell 0, h.cell 1, h.cell 2, h.cell 3, h.cell 4, h.cell 5, h.cell 6, h.cell 7⟩
theorem capN {n : Int} {m : Nat} (h : n = m) : capI n = ((min m 4097 : Nat) : Int) := by unfold capI; split <;> omega
theorem cap_n {n : Int} {m : Nat} (h : n = m) : Pure1 87 #[.int .i64 n] (.int .i64 ((min m 4097 : Nat) : Int)) := by rw [← capN h]; exact cap_c n
set_option maxRecDepth 4000 in
set_option maxHeartbeats 8000000 in
theorem steps_n {P : Nat → Prop} {cs : List Cel} (hcl : cs.length ≤ 1000000) (fb : EF) : ∀ (N : Nat) (t : SL), t.size = N → ∀ (w : World) (cv bv kb v : Value) (rows : List (List Value)), CsW P w cv cs → isSl bv → isSl kb → Rows P w v 8 rows → SLW P w t rows → Calls Try.prog 60 #[prA cv bv fb kb, v] w fun e w' => e = .returned (.tuple #[.int .i64 (((stS cs.length t (0, 0)).1 : Nat) : Int), .int .i64 (((stS cs.length t (0, 0)).2 : Nat) : Int)]) ∧ Keep w w' := by
  intro N
  induction N using Nat.strongRecOn with
  | _ N ih =>
    intro t hN w cv bv kb v rows hc hb hkb hr he
    have HB0 := Hid.mk hb
    have HKB0 := Hid.mk hkb
    obtain ⟨ba, bn, bc, rfl⟩ := hb
    obtain ⟨ka, kn, kc, rfl⟩ := hkb
    obtain ⟨ca, cc, hcv, cv1, cv2⟩ := hc.form
    subst hcv
    have hlen := he.len
    obtain ⟨va, vc, hv, v1, v2⟩ := hr.form
    rw [hlen] at hv v1
    subst hv
    unfold maxLen at v2 cv2
    have HC := Hid.mk hc
    have HR := Hid.mk hr
    have HE := Hid.mk he
    have HLEN := Hid.mk hlen
    have HIH : Hid (∀ (t' : SL), t'.size < t.size → ∀ (W : World) (v : Value) (rows : List (List Value)), Keep w W → Rows P W v 8 rows → SLW P W t' rows → Calls Try.prog 60 #[prA (.slice ca cs.length cc) (.slice ba bn bc) fb (.slice ka kn kc), v] W fun e w' => e = .returned (.tuple #[.int .i64 (((stS cs.length t' (0, 0)).1 : Nat) : Int), .int .i64 (((stS cs.length t' (0, 0)).2 : Nat) : Int)]) ∧ Keep W w') := Hid.mk (fun t' ht' W v rows kk h1 h2 => ih t'.size (by rw [← hN]; exact ht') t' rfl W _ _ _ v rows (HC.out.step (KP.of kk)) HB0.out HKB0.out h1 h2)
    have HX : Hid (stS cs.length t (0, 0) = t.toL.foldl (stY cs.length) (0, 0)) := Hid.mk (stS_fold _ _ _)
    generalize stS cs.length t (0, 0) = res at *
    obtain ⟨res1, res2⟩ := res
    unfold SL.len at *
    have hli : (t.toL.length : Int) ≤ 9223372036854775807 := by omega
    have hcli : (cs.length : Int) ≤ 1000000 := by omega
    clear hc hr he hlen ih hN
    simp only [prA] at *
    obtain ⟨W, hW⟩ : ∃ W, W = w.alloc (.cells #[.slice ca cs.length cc, .slice ba bn bc, .int .i64 fb.k, .int .i64 fb.w, .int .i64 fb.o, .int .u64 (fb.v : Nat), .int .i64 fb.c, .int .i64 fb.l, .slice ka kn kc] 33) := ⟨_, rfl⟩
    have kW : Keep w W := by rw [hW]; exact (Keep.refl w).alloc _
    have aP : Arr W w.heap.size 33 (PrC (.slice ca cs.length cc) (.slice ba bn bc) fb (.slice ka kn kc)) := by rw [hW]; exact Arr.new w 33 _
    have HKW := Hid.mk kW
    have HAP := Hid.mk aP
    clear kW aP
    go_enter Try.func60, Try.ntmps60
    go_upto_region 1 with fail
    rw [← hW]
    generalize w.heap.size = gP at *
    clear hW
    go_wp2_with fail
    go_loopg [6, 7, 9, 19] t.toL.length (fun gk v6 v7 v9 v19 wr => ∃ (k : Nat), k + gk = t.toL.length ∧ v19 = .int .i64 k ∧ Keep W wr ∧ v6 = .int .i64 ((((t.toL.take k).foldl (stY cs.length) (0, 0)).1 : Nat) : Int) ∧ v7 = .int .i64 ((((t.toL.take k).foldl (stY cs.length) (0, 0)).2 : Nat) : Int))
    case atStart => exact ⟨0, by omega, rfl, Keep.refl W, rfl, rfl⟩
    case round =>
      obtain ⟨k, hk, rfl, kp, rfl, rfl⟩ := hrel
      have HK := Hid.mk hk
      have HKP := Hid.mk kp
      by_cases hlt : k < t.toL.length
      · have j1 : (k : Int) < t.toL.length := by omega
        have j2 : (0 : Int) ≤ k := by omega
        have hrl : k < rows.length := by rw [HLEN.out]; exact hlt
        obtain ⟨ev, er, tv, tr, lv, lr, x1, x2, x3, x4, x5, x6, x7, x8⟩ := (HE.out.step (KP.of (HKW.out.trans kp))).get k hlt hrl
        obtain ⟨b, o, ha, -, -, hc⟩ := (HR.out.step (KP.of (HKW.out.trans kp))).cell hrl
        subst ha
        have c0 := hc 0 (by decide)
        have c1 := hc 1 (by decide)
        have c2 := hc 2 (by decide)
        have c3 := hc 3 (by decide)
        have c4 := hc 4 (by decide)
        have c5 := hc 5 (by decide)
        have c6 := hc 6 (by decide)
        have c7 := hc 7 (by decide)
        rw [x1] at c0 c1 c2 c3 c4 c5 c6 c7
        simp only [sfC, List.getElem?_cons_zero, List.getElem?_cons_succ, Nat.add_zero] at c0 c1 c2 c3 c4 c5 c6 c7
        have HF : Hid ((t.toL.take (k + 1)).foldl (stY cs.length) (0, 0) = stS1 cs.length t.toL[k].1 (stE t.toL[k].2.1 0) (stS cs.length t.toL[k].2.2.1 (0, 0)) (stS cs.length t.toL[k].2.2.2 (0, 0)) ((t.toL.take k).foldl (stY cs.length) (0, 0))) := Hid.mk (by rw [List.take_succ_eq_append_getElem hlt, List.foldl_append]; rfl)
        have hac := stY_le cs.length (t.toL.take k) (0, 0) ⟨by omega, by omega⟩
        have hms := SL.mem_size (List.getElem_mem hlt)
        generalize t.toL[k] = x at *
        obtain ⟨f, ex, th, el⟩ := x
        simp only at *
        have XS := fun V (kk : Keep wr V) => exprSteps_c (x3.step (KP.of kk)) (x4.step (KP.of kk))
        have TS := fun V (kk : Keep wr V) => HIH.out th hms.1 V _ _ (HKW.out.trans (kp.trans kk)) (x5.step (KP.of kk)) (x6.step (KP.of kk))
        have LS := fun V (kk : Keep wr V) => HIH.out el hms.2 V _ _ (HKW.out.trans (kp.trans kk)) (x7.step (KP.of kk)) (x8.step (KP.of kk))
        have IT := fun V (kk : Keep wr V) => iter_c f x2 x3.sl x5.sl x7.sl V
        have hex := stE_le ex
        have hth := stS_le cs.length th
        have hel := stS_le cs.length el
        have hit := itN_le f.a f.b
        obtain ⟨ea, ec, hev, -, -⟩ := x3.form
        obtain ⟨ta, tc, htv, -, -⟩ := x5.form
        obtain ⟨la, lc, hlv, -, -⟩ := x7.form
        subst hev htv hlv
        generalize (t.toL.take k).foldl (stY cs.length) (0, 0) = acc at *
        obtain ⟨a1, a2⟩ := acc
        generalize stE ex 0 = xs at *
        generalize stS cs.length th (0, 0) = ths at *
        obtain ⟨t1, t2⟩ := ths
        generalize stS cs.length el (0, 0) = els at *
        obtain ⟨l1, l2⟩ := els
        simp only at *
        obtain ⟨ac1, ac2⟩ := hac
        obtain ⟨th1, th2⟩ := hth
        obtain ⟨el1, el2⟩ := hel
        have i1 : (a1 : Int) ≤ 4097 := by omega
        have i2 : (a2 : Int) ≤ 4097 := by omega
        have i3 : (xs : Int) ≤ 4097 := by omega
        have i4 : (t1 : Int) ≤ 4097 := by omega
        have i5 : (t2 : Int) ≤ 4097 := by omega
        have i6 : (l1 : Int) ≤ 4097 := by omega
        have i7 : (l2 : Int) ≤ 4097 := by omega
        have HXS := Hid.mk XS
        have HTS := Hid.mk TS
        have HLS := Hid.mk LS
        have HIT := Hid.mk IT
        have HSF := Hid.mk x2
        have hPW : gP < wr.heap.size := (HAP.out.keep kp).lt
        clear hc x1 x2 x3 x4 x5 x6 x7 x8 hk kp hrl hms XS TS LS IT hex th1 th2 el1 el2 ac1 ac2
        go_upto_region 5 with fail
        obtain ⟨V, hV⟩ : ∃ V, V = wr.alloc (.cells #[.int .i64 f.k, .int .i64 f.c, .int .i64 f.l, .int .i64 f.a, .int .i64 f.b, .slice ea er.length ec, .slice ta tr.length tc, .slice la lr.length lc] 109) := ⟨_, rfl⟩
        rw [← hV]
        have kV : Keep wr V := by rw [hV]; exact (Keep.refl wr).alloc _
        have aV : Arr V wr.heap.size 109 (SfC f (.slice ea er.length ec) (.slice ta tr.length tc) (.slice la lr.length lc)) := by rw [hV]; exact Arr.new wr 109 _
        have HKV := Hid.mk kV
        have HAV := Hid.mk aV
        obtain ⟨q0, q1, q2, q3, q4, q5, q6, q7⟩ := sfC_cells aV
        have X1 := HXS.out V kV
        have X2 := cap_n (n := (a1 : Int) + 1 + xs) (m := a1 + 1 + xs) (by push_cast; rfl)
        generalize wr.heap.size = gQ at *
        clear hV kV aV c0 c1 c2 c3 c4 c5 c6 c7
        go_wp2_with fail
        refine X1.mono ?_
        rintro e w2 ⟨rfl, k2⟩
        have HK2 := Hid.mk (HKV.out.trans k2)
        obtain ⟨q0, q1, q2, q3, q4, q5, q6, q7⟩ := sfC_cells (HAV.out.keep k2)
        obtain ⟨d0, d1, d2, d3, d4, d5, d6, d7, d8⟩ := prC_cells (HAP.out.keep (HKP.out.trans HK2.out))
        have HAV2 := Hid.mk (HAV.out.keep k2)
        clear k2 X1
        go_wp2_with fail
        refine (X2 _).mono ?_
        rintro e y ⟨rfl, hy⟩
        subst hy
        have i8 : ((min (a1 + 1 + xs) 4097 : Nat) : Int) ≤ 4097 := by omega
        obtain ⟨s0, hs0⟩ : ∃ s0, min (a1 + 1 + xs) 4097 = s0 := ⟨_, rfl⟩
        have HS0 := Hid.mk hs0
        rw [hs0] at i8
        rw [hs0]
        clear hs0 X2
        by_cases k0 : f.k = 0
        · have HST : Hid (stS1 cs.length f xs (t1, t2) (l1, l2) (a1, a2) = (s0, min (a2 + 1) 4097)) := Hid.mk (by unfold stS1; rw [if_pos k0, HS0.out])
          rw [k0] at q0
          have C1 := cap_n (n := (a2 : Int) + 1) (m := a2 + 1) (by push_cast; rfl)
          clear k0
          go_wp2_with fail
          refine (C1 _).mono ?_
          rintro e y ⟨rfl, hy⟩
          subst hy
          go_wp2_with fail
          go_roundg (gk - 1)
          case measure => have := HK.out; omega
          case rel =>
            refine ⟨k + 1, by have := HK.out; omega, by go_num, HKP.out.trans HK2.out, ?_, ?_⟩
            · rw [HF.out, HST.out]
            · rw [HF.out, HST.out]
        · by_cases k1 : f.k = 1
          · rw [k1] at q0
            by_cases hl : 0 < f.l
            · have HST : Hid (stS1 cs.length f xs (t1, t2) (l1, l2) (a1, a2) = (min (s0 + min f.l.toNat 4097) 4097, min (a2 + min f.l.toNat 4097) 4097)) := Hid.mk (by unfold stS1; rw [if_neg k0, if_pos k1, if_pos hl, HS0.out])
              have C0 := cap_n (n := f.l) (m := f.l.toNat) (by omega)
              have i9 : ((min f.l.toNat 4097 : Nat) : Int) ≤ 4097 := by omega
              generalize min f.l.toNat 4097 = lm at *
              have C1 := cap_n (n := (s0 : Int) + lm) (m := s0 + lm) (by push_cast; rfl)
              have C2 := cap_n (n := (a2 : Int) + lm) (m := a2 + lm) (by push_cast; rfl)
              clear k0 k1
              go_wp2_with fail
              refine (C0 _).mono ?_
              rintro e y ⟨rfl, hy⟩
              subst hy
              go_wp2_with fail
              refine (C1 _).mono ?_
              rintro e y ⟨rfl, hy⟩
              subst hy
              go_wp2_with fail
              refine (C0 _).mono ?_
              rintro e y ⟨rfl, hy⟩
              subst hy
              go_wp2_with fail
              refine (C2 _).mono ?_
              rintro e y ⟨rfl, hy⟩
              subst hy
              go_wp2_with fail
              go_roundg (gk - 1)
              case measure => have := HK.out; omega
              case rel =>
                refine ⟨k + 1, by have := HK.out; omega, by go_num, HKP.out.trans HK2.out, ?_, ?_⟩
                · rw [HF.out, HST.out]
                · rw [HF.out, HST.out]
            · have HST : Hid (stS1 cs.length f xs (t1, t2) (l1, l2) (a1, a2) = (s0, min a2 4097)) := Hid.mk (by unfold stS1; rw [if_neg k0, if_pos k1, if_neg hl, HS0.out])
              have C1 := cap_n (n := (a2 : Int)) (m := a2) rfl
              clear k0 k1
              go_wp2_with fail
              refine (C1 _).mono ?_
              rintro e y ⟨rfl, hy⟩
              subst hy
              go_wp2_with fail
              go_roundg (gk - 1)
              case measure => have := HK.out; omega
              case rel =>
                refine ⟨k + 1, by have := HK.out; omega, by go_num, HKP.out.trans HK2.out, ?_, ?_⟩
                · rw [HF.out, HST.out]
                · rw [HF.out, HST.out]
          · by_cases k2 : f.k = 2
            · rw [k2] at q0
              have HST : Hid (stS1 cs.length f xs (t1, t2) (l1, l2) (a1, a2) = (min (s0 + t1 + l1 + min (t2 + l2) cs.length) 4097, min (a2 + t2 + l2) 4097)) := Hid.mk (by unfold stS1; rw [if_neg k0, if_neg k1, if_pos k2, HS0.out])
              have TS := HTS.out _ HK2.out
              clear k0 k1 k2
              go_wp2_with fail
              refine TS.mono ?_
              rintro e w3 ⟨rfl, kk⟩
              have HKw3 := Hid.mk (HK2.out.trans kk)
              obtain ⟨q0, q1, q2, q3, q4, q5, q6, q7⟩ := sfC_cells (HAV2.out.keep kk)
              have HAV2 := Hid.mk (HAV2.out.keep kk)
              obtain ⟨d0, d1, d2, d3, d4, d5, d6, d7, d8⟩ := prC_cells (HAP.out.keep (HKP.out.trans HKw3.out))
              clear kk TS
              have LS := HLS.out w3 HKw3.out
              go_wp2_with fail
              refine LS.mono ?_
              rintro e w4 ⟨rfl, kk⟩
              have HKw4 := Hid.mk (HKw3.out.trans kk)
              obtain ⟨q0, q1, q2, q3, q4, q5, q6, q7⟩ := sfC_cells (HAV2.out.keep kk)
              have HAV2 := Hid.mk (HAV2.out.keep kk)
              obtain ⟨d0, d1, d2, d3, d4, d5, d6, d7, d8⟩ := prC_cells (HAP.out.keep (HKP.out.trans HKw4.out))
              clear kk LS
              have i9 : ((min (t2 + l2) cs.length : Nat) : Int) ≤ 8194 := by omega
              have C1 := cap_n (n := (s0 : Int) + t1 + l1 + (min (t2 + l2) cs.length : Nat)) (m := s0 + t1 + l1 + min (t2 + l2) cs.length) (by push_cast; rfl)
              have C2 := cap_n (n := (a2 : Int) + t2 + l2) (m := a2 + t2 + l2) (by push_cast; rfl)
              by_cases hm : (cs.length : Int) < (t2 : Int) + l2
              · have hmm : min (t2 + l2) cs.length = cs.length := by omega
                rw [hmm] at HST C1 i9
                clear hmm
                go_wp2_with fail
                refine (C1 _).mono ?_
                rintro e y ⟨rfl, hy⟩
                subst hy
                go_wp2_with fail
                refine (C2 _).mono ?_
                rintro e y ⟨rfl, hy⟩
                subst hy
                go_wp2_with fail
                go_roundg (gk - 1)
                case measure => have := HK.out; omega
                case rel =>
                  refine ⟨k + 1, by have := HK.out; omega, by go_num, HKP.out.trans HKw4.out, ?_, ?_⟩
                  · rw [HF.out, HST.out]
                  · rw [HF.out, HST.out]
              · have hmm : min (t2 + l2) cs.length = t2 + l2 := by omega
                rw [hmm] at HST C1 i9
                rw [show ((t2 + l2 : Nat) : Int) = (t2 : Int) + l2 by push_cast; rfl] at C1
                clear hmm
                go_wp2_with fail
                refine (C1 _).mono ?_
                rintro e y ⟨rfl, hy⟩
                subst hy
                go_wp2_with fail
                refine (C2 _).mono ?_
                rintro e y ⟨rfl, hy⟩
                subst hy
                go_wp2_with fail
                go_roundg (gk - 1)
                case measure => have := HK.out; omega
                case rel =>
                  refine ⟨k + 1, by have := HK.out; omega, by go_num, HKP.out.trans HKw4.out, ?_, ?_⟩
                  · rw [HF.out, HST.out]
                  · rw [HF.out, HST.out]
            · by_cases k3 : f.k = 3
              · rw [k3] at q0
                have HST : Hid (stS1 cs.length f xs (t1, t2) (l1, l2) (a1, a2) = (min (s0 + itN f.a f.b * (1 + t1)) 4097, min (a2 + itN f.a f.b * (1 + t2)) 4097)) := Hid.mk (by unfold stS1; rw [if_neg k0, if_neg k1, if_neg k2, if_pos k3, HS0.out])
                have TS := HTS.out _ HK2.out
                clear k0 k1 k2 k3
                go_wp2_with fail
                refine TS.mono ?_
                rintro e w3 ⟨rfl, kk⟩
                have HKw3 := Hid.mk (HK2.out.trans kk)
                obtain ⟨q0, q1, q2, q3, q4, q5, q6, q7⟩ := sfC_cells (HAV2.out.keep kk)
                have HAV2 := Hid.mk (HAV2.out.keep kk)
                obtain ⟨d0, d1, d2, d3, d4, d5, d6, d7, d8⟩ := prC_cells (HAP.out.keep (HKP.out.trans HKw3.out))
                clear kk TS
                have IT := HIT.out w3 HKw3.out
                simp only [sfA] at IT
                go_wp2_with fail
                refine IT.mono ?_
                rintro e w4 ⟨rfl, kk⟩
                have HKw4 := Hid.mk (HKw3.out.trans kk)
                obtain ⟨q0, q1, q2, q3, q4, q5, q6, q7⟩ := sfC_cells (HAV2.out.keep kk)
                have HAV2 := Hid.mk (HAV2.out.keep kk)
                obtain ⟨d0, d1, d2, d3, d4, d5, d6, d7, d8⟩ := prC_cells (HAP.out.keep (HKP.out.trans HKw4.out))
                clear kk IT
                have IT := HIT.out w4 HKw4.out
                simp only [sfA] at IT
                have hp1 : (itN f.a f.b : Int) * (1 + t1) ≤ 20000000 := by
                  have : itN f.a f.b * (1 + t1) ≤ 4097 * 4098 := Nat.mul_le_mul hit (by omega)
                  have e : ((itN f.a f.b * (1 + t1) : Nat) : Int) = (itN f.a f.b : Int) * (1 + t1) := by push_cast; rfl
                  omega
                have hp2 : (itN f.a f.b : Int) * (1 + t2) ≤ 20000000 := by
                  have : itN f.a f.b * (1 + t2) ≤ 4097 * 4098 := Nat.mul_le_mul hit (by omega)
                  have e : ((itN f.a f.b * (1 + t2) : Nat) : Int) = (itN f.a f.b : Int) * (1 + t2) := by push_cast; rfl
                  omega
                have hp3 : (0 : Int) ≤ (itN f.a f.b : Int) * (1 + t1) := Int.mul_nonneg (by omega) (by omega)
                have hp4 : (0 : Int) ≤ (itN f.a f.b : Int) * (1 + t2) := Int.mul_nonneg (by omega) (by omega)
                have C1 := cap_n (n := (s0 : Int) + (itN f.a f.b : Int) * (1 + t1)) (m := s0 + itN f.a f.b * (1 + t1)) (by push_cast; rfl)
                have C2 := cap_n (n := (a2 : Int) + (itN f.a f.b : Int) * (1 + t2)) (m := a2 + itN f.a f.b * (1 + t2)) (by push_cast; rfl)
                generalize itN f.a f.b = it at *
                go_wp2_with fail
                refine (C1 _).mono ?_
                rintro e y ⟨rfl, hy⟩
                subst hy
                go_wp2_with fail
                refine IT.mono ?_
                rintro e w5 ⟨rfl, kk⟩
                have HKw5 := Hid.mk (HKw4.out.trans kk)
                obtain ⟨q0, q1, q2, q3, q4, q5, q6, q7⟩ := sfC_cells (HAV2.out.keep kk)
                have HAV2 := Hid.mk (HAV2.out.keep kk)
                obtain ⟨d0, d1, d2, d3, d4, d5, d6, d7, d8⟩ := prC_cells (HAP.out.keep (HKP.out.trans HKw5.out))
                clear kk IT
                go_wp2_with fail
                refine (C2 _).mono ?_
                rintro e y ⟨rfl, hy⟩
                subst hy
                go_wp2_with fail
                go_roundg (gk - 1)
                case measure => have := HK.out; omega
                case rel =>
                  refine ⟨k + 1, by have := HK.out; omega, by go_num, HKP.out.trans HKw5.out, ?_, ?_⟩
                  · rw [HF.out, HST.out]
                  · rw [HF.out, HST.out]
              · have m0 : (f.k == 0) = false := by simpa using k0
                have m1 : (f.k == 1) = false := by simpa using k1
                have m2 : (f.k == 2) = false := by simpa using k2
                have m3 : (f.k == 3) = false := by simpa using k3
                have HST : Hid (stS1 cs.length f xs (t1, t2) (l1, l2) (a1, a2) = (s0, min (a2 + 3) 4097)) := Hid.mk (by unfold stS1; rw [if_neg k0, if_neg k1, if_neg k2, if_neg k3, HS0.out])
                have C1 := cap_n (n := (a2 : Int) + 3) (m := a2 + 3) (by push_cast; rfl)
                clear k0 k1 k2 k3
                go_wp2_with fail
                refine (C1 _).mono ?_
                rintro e y ⟨rfl, hy⟩
                subst hy
                go_wp2_with fail
                go_roundg (gk - 1)
                case measure => have := HK.out; omega
                case rel =>
                  refine ⟨k + 1, by have := HK.out; omega, by go_num, HKP.out.trans HK2.out, ?_, ?_⟩
                  · rw [HF.out, HST.out]
                  · rw [HF.out, HST.out]
      · have j1 : ¬ (k : Int) < t.toL.length := by omega
        obtain rfl : k = t.toL.length := by omega
        rw [List.take_length, ← HX.out]
        clear hk kp
        go_wp2_with fail
        go_ret2
        exact ⟨rfl, HKW.out.trans HKP.out⟩
theorem steps_c {P : Nat → Prop} {cs : List Cel} (hcl : cs.length ≤ 1000000) {fb : EF} {t : SL} {w : World} {cv bv kb v : Value} {rows : List (List Value)} (h1 : CsW P w cv cs) (h2 : isSl bv) (h3 : isSl kb) (h4 : Rows P w v 8 rows) (h5 : SLW P w t rows) : Calls Try.prog 60 #[prA cv bv fb kb, v] w fun e w' => e = .returned (.tuple #[.int .i64 (((stS cs.length t (0, 0)).1 : Nat) : Int), .int .i64 (((stS cs.length t (0, 0)).2 : Nat) : Int)]) ∧ Keep w w' := steps_n hcl fb t.size t rfl w cv bv kb v rows h1 h2 h3 h4 h5
end Go.Proofs.Qxb6500772a
