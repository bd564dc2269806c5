/- corem: checkBad. -/
import Derived.Test.Qxb6500772aTe
namespace Go.Proofs.Qxb6500772a
open Go.RowKit Go.Qm
set_option linter.unusedVariables false
set_option linter.unusedSimpArgs false
attribute [local go_sem ↓] Go.wp_at_zero Go.wp_at_succ
def inpAt (cs : List Cel) (c : Int) : Bool := (cs.getD c.toNat ⟨0, false, 0, 0, 0⟩).inp
def cbX' (cs : List Cel) (f : EF) (k : Nat) : Nat :=
  if f.k = 3 ∨ f.k = 5 ∧ (f.o = 11 ∨ f.o = 12) then 2 else if f.k = 1 ∧ inpAt cs f.c = true then 3 else k
def cbL (cs : List Cel) : EL → Nat
  | .nil => 0
  | .cons f k r => if cbX' cs f (cbL cs k) = 0 then cbL cs r else cbX' cs f (cbL cs k)
def cbX (cs : List Cel) (x : EF × EL) : Nat := cbX' cs x.1 (cbL cs x.2)
theorem cbL_first (cs : List Cel) : ∀ t : EL, cbL cs t = firstNZ (t.toL.map (cbX cs))
  | .nil => rfl
  | .cons f k r => by rw [cbL, EL.toL, List.map_cons, firstNZ, cbL_first cs r]; rfl
theorem wtL_mem {ws : List Int} : ∀ {t : EL}, wtL ws t → ∀ x ∈ t.toL, wtL ws x.2 ∧ wtOne ws x.1 x.2.ws
  | .nil, _, x, hx => by simp [EL.toL] at hx
  | .cons f k r, h, x, hx => by
    simp only [EL.toL, List.mem_cons] at hx
    rcases hx with rfl | hx
    · exact ⟨h.1, h.2.1⟩
    · exact wtL_mem h.2.2 x hx
set_option maxRecDepth 4000 in
set_option maxHeartbeats 8000000 in
theorem checkBad_n {P : Nat → Prop} {cs : List Cel} (hcl : cs.length ≤ 1000000) (fb : EF) : ∀ (N : Nat) (f : EF) (t : EL), t.size = N → ∀ (w : World) (cv bv kb v : Value) (rows : List (List Value)), CsW P w cv cs → isSl bv → isSl kb → EFr f → Rows P w v 7 rows → ELW P w t rows → wtL (cs.map (·.w)) t → wtOne (cs.map (·.w)) f t.ws → Calls Try.prog 59 #[prA cv bv fb kb, efA f v] w fun e w' => e = .returned (.int .i64 ((cbX cs (f, t) : Nat) : Int)) ∧ Keep w w' := by
  intro N
  induction N using Nat.strongRecOn with
  | _ N ih =>
    intro f t hN w cv bv kb v rows hc hb hkb hf hr he hwt hwo
    have HB0 := Hid.mk hb
    have HKB0 := Hid.mk hkb
    obtain ⟨ba, bn, bc, rfl⟩ := hb
    obtain ⟨ka, kn, kc, rfl⟩ := hkb
    obtain ⟨ca, cc, hcv, cv1, cv2⟩ := hc.form
    subst hcv
    have hlen := he.len
    obtain ⟨va, vc, hv, v1, v2⟩ := hr.form
    rw [hlen] at hv v1
    subst hv
    unfold maxLen at v2 cv2
    have HC := Hid.mk hc
    have HR := Hid.mk hr
    have HE := Hid.mk he
    have HF := Hid.mk hf
    have HLEN := Hid.mk hlen
    have HIH : Hid (∀ x ∈ t.toL, EFr x.1 → ∀ (W : World) (v : Value) (rows : List (List Value)), Keep w W → Rows P W v 7 rows → ELW P W x.2 rows → Calls Try.prog 59 #[prA (.slice ca cs.length cc) (.slice ba bn bc) fb (.slice ka kn kc), efA x.1 v] W fun e w' => e = .returned (.int .i64 ((cbX cs x : Nat) : Int)) ∧ Keep W w') := Hid.mk (fun x hx hx1 W v rows kk h1 h2 => ih x.2.size (by rw [← hN]; exact EL.mem_size hx) x.1 x.2 rfl W _ _ _ v rows (HC.out.step (KP.of kk)) HB0.out HKB0.out hx1 h1 h2 (wtL_mem hwt x hx).1 (wtL_mem hwt x hx).2)
    have HX : Hid (cbX cs (f, t) = if f.k = 3 ∨ f.k = 5 ∧ (f.o = 11 ∨ f.o = 12) then 2 else if f.k = 1 ∧ inpAt cs f.c = true then 3 else firstNZ (t.toL.map (cbX cs))) := Hid.mk (by rw [cbX, cbX', ← cbL_first])
    have HRD : Hid (f.k = 1 → 0 ≤ f.c ∧ f.c < cs.length) := Hid.mk (fun e => by
      obtain ⟨-, h⟩ := hwo
      rw [e] at h
      rcases h with ⟨a, -⟩ | ⟨-, -, h⟩ | ⟨a, -⟩ | ⟨a, -⟩ | ⟨a, -⟩ | ⟨a, -⟩ | ⟨a, -⟩
      · exact absurd a (by decide)
      · obtain ⟨p1, p2, p3, -⟩ := h; rw [List.length_map] at p3; omega
      all_goals exact absurd a (by decide))
    generalize cbX cs (f, t) = res at *
    unfold EL.len at *
    have hli : (t.toL.length : Int) ≤ 9223372036854775807 := by omega
    have hcli : (cs.length : Int) ≤ 1000000 := by omega
    clear hc hf hr he hlen ih hN hwt hwo
    simp only [prA, efA] at *
    obtain ⟨W, hW⟩ : ∃ W, W = (w.alloc (.cells #[.slice ca cs.length cc, .slice ba bn bc, .int .i64 fb.k, .int .i64 fb.w, .int .i64 fb.o, .int .u64 (fb.v : Nat), .int .i64 fb.c, .int .i64 fb.l, .slice ka kn kc] 33)).alloc (.cells #[.int .i64 f.k, .int .i64 f.w, .int .i64 f.o, .int .u64 (f.v : Nat), .int .i64 f.c, .int .i64 f.l, .slice va t.toL.length vc] 31) := ⟨_, rfl⟩
    have kW : Keep w W := by rw [hW]; exact ((Keep.refl w).alloc _).alloc _
    have aP : Arr W w.heap.size 33 (PrC (.slice ca cs.length cc) (.slice ba bn bc) fb (.slice ka kn kc)) := by rw [hW]; exact (Arr.new w 33 _).keep ((Keep.refl _).alloc _)
    have aE : Arr W (w.heap.size + 1) 31 (EfC f (.slice va t.toL.length vc)) := by
      rw [hW]
      have := Arr.new (w.alloc (.cells #[.slice ca cs.length cc, .slice ba bn bc, .int .i64 fb.k, .int .i64 fb.w, .int .i64 fb.o, .int .u64 (fb.v : Nat), .int .i64 fb.c, .int .i64 fb.l, .slice ka kn kc] 33)) 31 (EfC f (.slice va t.toL.length vc))
      have e : (w.alloc (.cells #[.slice ca cs.length cc, .slice ba bn bc, .int .i64 fb.k, .int .i64 fb.w, .int .i64 fb.o, .int .u64 (fb.v : Nat), .int .i64 fb.c, .int .i64 fb.l, .slice ka kn kc] 33)).heap.size = w.heap.size + 1 := by simp
      rw [e] at this
      exact this
    have HKW := Hid.mk kW
    have HAP := Hid.mk aP
    have HAE := Hid.mk aE
    obtain ⟨d0, d1, d2, d3, d4, d5, d6, d7, d8⟩ := prC_cells aP
    obtain ⟨e0, e1, e2, e3, e4, e5, e6⟩ := efC_cells aE
    clear kW aP aE
    go_enter Try.func59, Try.ntmps59
    go_upto_region 1 with fail
    rw [← hW]
    generalize w.heap.size + 1 = gE at *
    generalize w.heap.size = gP at *
    clear hW
    obtain ⟨fk, fw, fo, fv, fc, fl⟩ := f
    simp only at *
    by_cases b1 : fk = 3 ∨ fk = 5 ∧ (fo = 11 ∨ fo = 12)
    · rw [if_pos b1] at HX
      rcases b1 with rfl | ⟨rfl, rfl | rfl⟩
      all_goals
        go_wp2_with fail
        go_ret
        exact ⟨by rw [HX.out]; rfl, HKW.out⟩
    · rw [if_neg b1] at HX
      have m3 : (fk == 3) = false := by simp; omega
      have HB1 : Hid (fk = 5 → (fo == 11) = false ∧ (fo == 12) = false) := Hid.mk (fun e => by simp; omega)
      by_cases b2 : fk = 1 ∧ inpAt cs fc = true
      · rw [if_pos b2] at HX
        obtain ⟨rfl, hin⟩ := b2
        obtain ⟨q1, q2⟩ := HRD.out rfl
        obtain ⟨C, rfl⟩ : ∃ C : Nat, fc = C := ⟨fc.toNat, by omega⟩
        obtain ⟨b, o, hca, hcl2⟩ := (HC.out.step (KP.of HKW.out)).cell (i := C) (by omega)
        subst hca
        have c1 := hcl2 1 (by decide)
        have hci : cs[C]'(by omega) = cs.getD C ⟨0, false, 0, 0, 0⟩ := by simp [List.getD_eq_getElem?_getD, show C < cs.length by omega]
        rw [hci] at c1
        have hin2 : (cs.getD C ⟨0, false, 0, 0, 0⟩).inp = true := by simpa [inpAt] using hin
        simp only [celC, List.getElem?_cons_zero, List.getElem?_cons_succ, hin2] at c1
        clear hcl2 hci hin hin2 b1 m3
        go_wp2_with fail
        go_ret
        exact ⟨by rw [HX.out]; rfl, HKW.out⟩
      · rw [if_neg b2] at HX
        by_cases k5 : fk = 5
        · subst k5
          obtain ⟨p1, p2⟩ := HB1.out rfl
          clear b1 b2 m3
          go_wp2_with fail
          go_loopg [6, 7, 41] t.toL.length (fun gk v6 v7 v41 wr => ∃ (k : Nat), k + gk = t.toL.length ∧ v41 = .int .i64 k ∧ Keep W wr ∧ firstNZ (t.toL.map (cbX cs)) = firstNZ ((t.toL.map (cbX cs)).drop k))
          case atStart => exact ⟨0, by omega, rfl, Keep.refl W, rfl⟩
          case round =>
            obtain ⟨k, hk, rfl, kp, hG⟩ := hrel
            have HK := Hid.mk hk
            have HKP := Hid.mk kp
            have HG := Hid.mk hG
            by_cases hlt : k < t.toL.length
            · have j1 : (k : Int) < t.toL.length := by omega
              have j2 : (0 : Int) ≤ k := by omega
              have hrl : k < rows.length := by rw [HLEN.out]; exact hlt
              obtain ⟨xv, xr, x1, x2, x3, x4⟩ := (HE.out.step (KP.of (HKW.out.trans kp))).get k hlt hrl
              obtain ⟨b, o, ha, -, -, hc⟩ := (HR.out.step (KP.of (HKW.out.trans kp))).cell hrl
              subst ha
              have c0 := hc 0 (by decide)
              have c1 := hc 1 (by decide)
              have c2 := hc 2 (by decide)
              have c3 := hc 3 (by decide)
              have c4 := hc 4 (by decide)
              have c5 := hc 5 (by decide)
              have c6 := hc 6 (by decide)
              rw [x1] at c0 c1 c2 c3 c4 c5 c6
              simp only [efC, List.getElem?_cons_zero, List.getElem?_cons_succ, Nat.add_zero] at c0 c1 c2 c3 c4 c5 c6
              obtain ⟨xa, xc, hxv, xv1, xv2⟩ := x3.form
              subst hxv
              have HSUB : Hid ((t.toL.map (cbX cs)).drop k = cbX cs t.toL[k] :: (t.toL.map (cbX cs)).drop (k + 1)) := Hid.mk (by
                rw [List.drop_eq_getElem_cons (by simpa using hlt)]; simp)
              have IH2 := fun V (kk : Keep wr V) => HIH.out t.toL[k] (List.getElem_mem hlt) x2 V _ _ (HKW.out.trans (kp.trans kk)) (x3.step (KP.of kk)) (x4.step (KP.of kk))
              have HI2 := Hid.mk IH2
              obtain ⟨d0, d1, d2, d3, d4, d5, d6, d7, d8⟩ := prC_cells (HAP.out.keep kp)
              have hPW : gP < wr.heap.size := (HAP.out.keep kp).lt
              generalize t.toL[k] = x at *
              obtain ⟨g, xk⟩ := x
              simp only at *
              generalize hrx : cbX cs (g, xk) = rx at *
              clear hc x1 x2 x3 x4 IH2 hk kp hG hrl hrx e0 e1 e2 e3 e4 e5 e6
              go_upto_region 8 with fail
              obtain ⟨V, hV⟩ : ∃ V, V = wr.alloc (.cells #[.int .i64 g.k, .int .i64 g.w, .int .i64 g.o, .int .u64 (g.v : Nat), .int .i64 g.c, .int .i64 g.l, .slice xa xr.length xc] 31) := ⟨_, rfl⟩
              rw [← hV]
              have kV : Keep wr V := by rw [hV]; exact (Keep.refl wr).alloc _
              have aV : Arr V wr.heap.size 31 (EfC g (.slice xa xr.length xc)) := by rw [hV]; exact Arr.new wr 31 _
              have IH3 := HI2.out V kV
              have HKV := Hid.mk (HKP.out.trans kV)
              obtain ⟨d0, d1, d2, d3, d4, d5, d6, d7, d8⟩ := prC_cells (HAP.out.keep HKV.out)
              obtain ⟨q0, q1, q2, q3, q4, q5, q6⟩ := efC_cells aV
              generalize wr.heap.size = gQ at *
              clear hV kV aV c0 c1 c2 c3 c4 c5 c6
              go_wp2_with fail
              refine IH3.mono ?_
              rintro e w2 ⟨rfl, k2⟩
              have HK2 := Hid.mk (HKV.out.trans k2)
              have HFN : Hid (firstNZ (rx :: (t.toL.map (cbX cs)).drop (k + 1)) = if rx = 0 then firstNZ ((t.toL.map (cbX cs)).drop (k + 1)) else rx) := Hid.mk rfl
              clear k2 IH3 q0 q1 q2 q3 q4 q5 q6 d0 d1 d2 d3 d4 d5 d6 d7 d8
              by_cases z : rx = 0
              · subst z
                rw [if_pos rfl] at HFN
                go_wp2_with fail
                go_roundg (gk - 1)
                case measure => have := HK.out; omega
                case rel => exact ⟨k + 1, by have := HK.out; omega, by go_num, HK2.out, by rw [HG.out, HSUB.out, HFN.out]⟩
              · rw [if_neg z] at HFN
                have z2 : ((rx : Int) == 0) = false := by simp; omega
                have z3 : ((rx : Int) != 0) = true := by simp; omega
                clear z
                go_wp2_with fail
                go_ret
                refine ⟨?_, HKW.out.trans HK2.out⟩
                rw [HX.out, HG.out, HSUB.out, HFN.out]
                rfl
            · have j1 : ¬ (k : Int) < t.toL.length := by omega
              obtain rfl : k = t.toL.length := by omega
              have hz : firstNZ (t.toL.map (cbX cs)) = 0 := by rw [hG, List.drop_of_length_le (by simp)]; rfl
              have HZ := Hid.mk hz
              have HKR := Hid.mk (HKW.out.trans kp)
              clear hk kp hG hz HG
              go_wp2_with fail
              go_ret
              exact ⟨by rw [HX.out, HZ.out]; rfl, HKR.out⟩
        · by_cases k1 : fk = 1
          · subst k1
            have hin : inpAt cs fc = false := by simpa using b2
            obtain ⟨q1, q2⟩ := HRD.out rfl
            obtain ⟨C, rfl⟩ : ∃ C : Nat, fc = C := ⟨fc.toNat, by omega⟩
            obtain ⟨b, o, hca, hcl2⟩ := (HC.out.step (KP.of HKW.out)).cell (i := C) (by omega)
            subst hca
            have c1 := hcl2 1 (by decide)
            have hci : cs[C]'(by omega) = cs.getD C ⟨0, false, 0, 0, 0⟩ := by simp [List.getD_eq_getElem?_getD, show C < cs.length by omega]
            rw [hci] at c1
            have hin2 : (cs.getD C ⟨0, false, 0, 0, 0⟩).inp = false := by simpa [inpAt] using hin
            simp only [celC, List.getElem?_cons_zero, List.getElem?_cons_succ, hin2] at c1
            clear hcl2 hci hin hin2 b1 b2 m3 k5
            go_wp2_with fail
            go_loopg [6, 7, 41] t.toL.length (fun gk v6 v7 v41 wr => ∃ (k : Nat), k + gk = t.toL.length ∧ v41 = .int .i64 k ∧ Keep W wr ∧ firstNZ (t.toL.map (cbX cs)) = firstNZ ((t.toL.map (cbX cs)).drop k))
            case atStart => exact ⟨0, by omega, rfl, Keep.refl W, rfl⟩
            case round =>
              obtain ⟨k, hk, rfl, kp, hG⟩ := hrel
              have HK := Hid.mk hk
              have HKP := Hid.mk kp
              have HG := Hid.mk hG
              by_cases hlt : k < t.toL.length
              · have j1 : (k : Int) < t.toL.length := by omega
                have j2 : (0 : Int) ≤ k := by omega
                have hrl : k < rows.length := by rw [HLEN.out]; exact hlt
                obtain ⟨xv, xr, x1, x2, x3, x4⟩ := (HE.out.step (KP.of (HKW.out.trans kp))).get k hlt hrl
                obtain ⟨b, o, ha, -, -, hc⟩ := (HR.out.step (KP.of (HKW.out.trans kp))).cell hrl
                subst ha
                have c0 := hc 0 (by decide)
                have c1 := hc 1 (by decide)
                have c2 := hc 2 (by decide)
                have c3 := hc 3 (by decide)
                have c4 := hc 4 (by decide)
                have c5 := hc 5 (by decide)
                have c6 := hc 6 (by decide)
                rw [x1] at c0 c1 c2 c3 c4 c5 c6
                simp only [efC, List.getElem?_cons_zero, List.getElem?_cons_succ, Nat.add_zero] at c0 c1 c2 c3 c4 c5 c6
                obtain ⟨xa, xc, hxv, xv1, xv2⟩ := x3.form
                subst hxv
                have HSUB : Hid ((t.toL.map (cbX cs)).drop k = cbX cs t.toL[k] :: (t.toL.map (cbX cs)).drop (k + 1)) := Hid.mk (by
                  rw [List.drop_eq_getElem_cons (by simpa using hlt)]; simp)
                have IH2 := fun V (kk : Keep wr V) => HIH.out t.toL[k] (List.getElem_mem hlt) x2 V _ _ (HKW.out.trans (kp.trans kk)) (x3.step (KP.of kk)) (x4.step (KP.of kk))
                have HI2 := Hid.mk IH2
                obtain ⟨d0, d1, d2, d3, d4, d5, d6, d7, d8⟩ := prC_cells (HAP.out.keep kp)
                have hPW : gP < wr.heap.size := (HAP.out.keep kp).lt
                generalize t.toL[k] = x at *
                obtain ⟨g, xk⟩ := x
                simp only at *
                generalize hrx : cbX cs (g, xk) = rx at *
                clear hc x1 x2 x3 x4 IH2 hk kp hG hrl hrx e0 e1 e2 e3 e4 e5 e6
                go_upto_region 8 with fail
                obtain ⟨V, hV⟩ : ∃ V, V = wr.alloc (.cells #[.int .i64 g.k, .int .i64 g.w, .int .i64 g.o, .int .u64 (g.v : Nat), .int .i64 g.c, .int .i64 g.l, .slice xa xr.length xc] 31) := ⟨_, rfl⟩
                rw [← hV]
                have kV : Keep wr V := by rw [hV]; exact (Keep.refl wr).alloc _
                have aV : Arr V wr.heap.size 31 (EfC g (.slice xa xr.length xc)) := by rw [hV]; exact Arr.new wr 31 _
                have IH3 := HI2.out V kV
                have HKV := Hid.mk (HKP.out.trans kV)
                obtain ⟨d0, d1, d2, d3, d4, d5, d6, d7, d8⟩ := prC_cells (HAP.out.keep HKV.out)
                obtain ⟨q0, q1, q2, q3, q4, q5, q6⟩ := efC_cells aV
                generalize wr.heap.size = gQ at *
                clear hV kV aV c0 c1 c2 c3 c4 c5 c6
                go_wp2_with fail
                refine IH3.mono ?_
                rintro e w2 ⟨rfl, k2⟩
                have HK2 := Hid.mk (HKV.out.trans k2)
                have HFN : Hid (firstNZ (rx :: (t.toL.map (cbX cs)).drop (k + 1)) = if rx = 0 then firstNZ ((t.toL.map (cbX cs)).drop (k + 1)) else rx) := Hid.mk rfl
                clear k2 IH3 q0 q1 q2 q3 q4 q5 q6 d0 d1 d2 d3 d4 d5 d6 d7 d8
                by_cases z : rx = 0
                · subst z
                  rw [if_pos rfl] at HFN
                  go_wp2_with fail
                  go_roundg (gk - 1)
                  case measure => have := HK.out; omega
                  case rel => exact ⟨k + 1, by have := HK.out; omega, by go_num, HK2.out, by rw [HG.out, HSUB.out, HFN.out]⟩
                · rw [if_neg z] at HFN
                  have z2 : ((rx : Int) == 0) = false := by simp; omega
                  have z3 : ((rx : Int) != 0) = true := by simp; omega
                  clear z
                  go_wp2_with fail
                  go_ret
                  refine ⟨?_, HKW.out.trans HK2.out⟩
                  rw [HX.out, HG.out, HSUB.out, HFN.out]
                  rfl
              · have j1 : ¬ (k : Int) < t.toL.length := by omega
                obtain rfl : k = t.toL.length := by omega
                have hz : firstNZ (t.toL.map (cbX cs)) = 0 := by rw [hG, List.drop_of_length_le (by simp)]; rfl
                have HZ := Hid.mk hz
                have HKR := Hid.mk (HKW.out.trans kp)
                clear hk kp hG hz HG
                go_wp2_with fail
                go_ret
                exact ⟨by rw [HX.out, HZ.out]; rfl, HKR.out⟩
          · have m5 : (fk == 5) = false := by simpa using k5
            have m1 : (fk == 1) = false := by simpa using k1
            clear b1 b2 k1 k5
            go_wp2_with fail
            go_loopg [6, 7, 41] t.toL.length (fun gk v6 v7 v41 wr => ∃ (k : Nat), k + gk = t.toL.length ∧ v41 = .int .i64 k ∧ Keep W wr ∧ firstNZ (t.toL.map (cbX cs)) = firstNZ ((t.toL.map (cbX cs)).drop k))
            case atStart => exact ⟨0, by omega, rfl, Keep.refl W, rfl⟩
            case round =>
              obtain ⟨k, hk, rfl, kp, hG⟩ := hrel
              have HK := Hid.mk hk
              have HKP := Hid.mk kp
              have HG := Hid.mk hG
              by_cases hlt : k < t.toL.length
              · have j1 : (k : Int) < t.toL.length := by omega
                have j2 : (0 : Int) ≤ k := by omega
                have hrl : k < rows.length := by rw [HLEN.out]; exact hlt
                obtain ⟨xv, xr, x1, x2, x3, x4⟩ := (HE.out.step (KP.of (HKW.out.trans kp))).get k hlt hrl
                obtain ⟨b, o, ha, -, -, hc⟩ := (HR.out.step (KP.of (HKW.out.trans kp))).cell hrl
                subst ha
                have c0 := hc 0 (by decide)
                have c1 := hc 1 (by decide)
                have c2 := hc 2 (by decide)
                have c3 := hc 3 (by decide)
                have c4 := hc 4 (by decide)
                have c5 := hc 5 (by decide)
                have c6 := hc 6 (by decide)
                rw [x1] at c0 c1 c2 c3 c4 c5 c6
                simp only [efC, List.getElem?_cons_zero, List.getElem?_cons_succ, Nat.add_zero] at c0 c1 c2 c3 c4 c5 c6
                obtain ⟨xa, xc, hxv, xv1, xv2⟩ := x3.form
                subst hxv
                have HSUB : Hid ((t.toL.map (cbX cs)).drop k = cbX cs t.toL[k] :: (t.toL.map (cbX cs)).drop (k + 1)) := Hid.mk (by
                  rw [List.drop_eq_getElem_cons (by simpa using hlt)]; simp)
                have IH2 := fun V (kk : Keep wr V) => HIH.out t.toL[k] (List.getElem_mem hlt) x2 V _ _ (HKW.out.trans (kp.trans kk)) (x3.step (KP.of kk)) (x4.step (KP.of kk))
                have HI2 := Hid.mk IH2
                obtain ⟨d0, d1, d2, d3, d4, d5, d6, d7, d8⟩ := prC_cells (HAP.out.keep kp)
                have hPW : gP < wr.heap.size := (HAP.out.keep kp).lt
                generalize t.toL[k] = x at *
                obtain ⟨g, xk⟩ := x
                simp only at *
                generalize hrx : cbX cs (g, xk) = rx at *
                clear hc x1 x2 x3 x4 IH2 hk kp hG hrl hrx e0 e1 e2 e3 e4 e5 e6
                go_upto_region 8 with fail
                obtain ⟨V, hV⟩ : ∃ V, V = wr.alloc (.cells #[.int .i64 g.k, .int .i64 g.w, .int .i64 g.o, .int .u64 (g.v : Nat), .int .i64 g.c, .int .i64 g.l, .slice xa xr.length xc] 31) := ⟨_, rfl⟩
                rw [← hV]
                have kV : Keep wr V := by rw [hV]; exact (Keep.refl wr).alloc _
                have aV : Arr V wr.heap.size 31 (EfC g (.slice xa xr.length xc)) := by rw [hV]; exact Arr.new wr 31 _
                have IH3 := HI2.out V kV
                have HKV := Hid.mk (HKP.out.trans kV)
                obtain ⟨d0, d1, d2, d3, d4, d5, d6, d7, d8⟩ := prC_cells (HAP.out.keep HKV.out)
                obtain ⟨q0, q1, q2, q3, q4, q5, q6⟩ := efC_cells aV
                generalize wr.heap.size = gQ at *
                clear hV kV aV c0 c1 c2 c3 c4 c5 c6
                go_wp2_with fail
                refine IH3.mono ?_
                rintro e w2 ⟨rfl, k2⟩
                have HK2 := Hid.mk (HKV.out.trans k2)
                have HFN : Hid (firstNZ (rx :: (t.toL.map (cbX cs)).drop (k + 1)) = if rx = 0 then firstNZ ((t.toL.map (cbX cs)).drop (k + 1)) else rx) := Hid.mk rfl
                clear k2 IH3 q0 q1 q2 q3 q4 q5 q6 d0 d1 d2 d3 d4 d5 d6 d7 d8
                by_cases z : rx = 0
                · subst z
                  rw [if_pos rfl] at HFN
                  go_wp2_with fail
                  go_roundg (gk - 1)
                  case measure => have := HK.out; omega
                  case rel => exact ⟨k + 1, by have := HK.out; omega, by go_num, HK2.out, by rw [HG.out, HSUB.out, HFN.out]⟩
                · rw [if_neg z] at HFN
                  have z2 : ((rx : Int) == 0) = false := by simp; omega
                  have z3 : ((rx : Int) != 0) = true := by simp; omega
                  clear z
                  go_wp2_with fail
                  go_ret
                  refine ⟨?_, HKW.out.trans HK2.out⟩
                  rw [HX.out, HG.out, HSUB.out, HFN.out]
                  rfl
              · have j1 : ¬ (k : Int) < t.toL.length := by omega
                obtain rfl : k = t.toL.length := by omega
                have hz : firstNZ (t.toL.map (cbX cs)) = 0 := by rw [hG, List.drop_of_length_le (by simp)]; rfl
                have HZ := Hid.mk hz
                have HKR := Hid.mk (HKW.out.trans kp)
                clear hk kp hG hz HG
                go_wp2_with fail
                go_ret
                exact ⟨by rw [HX.out, HZ.out]; rfl, HKR.out⟩
theorem checkBad_c {P : Nat → Prop} {cs : List Cel} (hcl : cs.length ≤ 1000000) {w : World} {cv bv kb v : Value} {rows : List (List Value)} {fb f : EF} {t : EL} (hc : CsW P w cv cs) (h1 : isSl bv) (h2 : isSl kb) (h3 : EFr f) (h4 : Rows P w v 7 rows) (h5 : ELW P w t rows) (h6 : wtL (cs.map (·.w)) t) (h7 : wtOne (cs.map (·.w)) f t.ws) : Calls Try.prog 59 #[prA cv bv fb kb, efA f v] w fun e w' => e = .returned (.int .i64 ((cbX cs (f, t) : Nat) : Int)) ∧ Keep w w' := checkBad_n hcl fb t.size f t rfl w cv bv kb v rows hc h1 h2 h3 h4 h5 h6 h7
end Go.Proofs.Qxb6500772a
