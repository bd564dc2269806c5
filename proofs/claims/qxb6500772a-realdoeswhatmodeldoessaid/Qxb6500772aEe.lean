/- blast: legal. -/
import Derived.Test.Qxb6500772aEd
import Derived.Test.Qxb6500772aDv
namespace Go.Proofs.Qxb6500772a
open Go.RowKit Go.Qm
set_option linter.unusedVariables false
set_option linter.unusedSimpArgs false
attribute [local go_sem ↓] Go.wp_at_zero Go.wp_at_succ
/-- An input lies in its range. -/
def legB (x : PS) (c : Cel) (i : Nat) : Bool := !c.inp || (decide (c.lo ≤ sgn (x.at i) c.w.toNat) && decide (sgn (x.at i) c.w.toNat ≤ c.hi))
theorem mod_sgn {z : Int} {D : Nat} (h1 : 1 ≤ D) (h : fitS z D = true) : sgn (z % 2 ^ D).toNat D = z := by
  simp only [fitS, decide_eq_true_eq] at h
  have hp : (2 : Int) ^ D = 2 * 2 ^ (D - 1) := by
    obtain ⟨u, rfl⟩ : ∃ u, D = u + 1 := ⟨D - 1, by omega⟩
    rw [Nat.add_sub_cancel, Int.pow_succ]; omega
  have h0 := two_pos (D - 1)
  have hc : ((2 ^ D : Nat) : Int) = (2 : Int) ^ D := by push_cast; rfl
  have hc1 : ((2 ^ (D - 1) : Nat) : Int) = (2 : Int) ^ (D - 1) := by push_cast; rfl
  have hlt : (z % 2 ^ D).toNat < 2 ^ D := by
    have h2 := Int.emod_lt_of_pos z (b := (2 : Int) ^ D) (by omega)
    have h3 := Int.emod_nonneg z (b := (2 : Int) ^ D) (by omega)
    omega
  unfold sgn
  rw [tb_top hlt h1]
  by_cases hz : 0 ≤ z
  · have e : z % 2 ^ D = z := Int.emod_eq_of_lt hz (by omega)
    rw [e]
    have : ¬ 2 ^ (D - 1) ≤ z.toNat := by omega
    simp only [this, decide_false, Bool.false_eq_true, if_false]
    omega
  · have e : z % 2 ^ D = z + 2 ^ D := by
      rw [← Int.add_emod_right, Int.emod_eq_of_lt (by omega) (by omega)]
    rw [e]
    have : 2 ^ (D - 1) ≤ (z + 2 ^ D).toNat := by omega
    simp only [this, decide_true, if_true]
    omega
theorem leg_lo {x : Cel} {D : Nat} {nlo : Int} (h1 : 1 ≤ D) (h2 : D ≤ 64) (hf : fitS x.lo D = true) (hr : I64 x.lo) (hn : nlo = IntKind.i64.wrap (x.lo - 1)) (hno : fitS nlo D = false) {v : Nat} (hv : v < 2 ^ D) : x.lo ≤ sgn v D := by
  have hs := sgn_lo h1 hv
  simp only [fitS, decide_eq_true_eq, decide_eq_false_iff_not] at hf hno
  have hp : (2 : Int) ^ (D - 1) ≤ 2 ^ 63 := two_le (by omega)
  have h63 : (2 : Int) ^ 63 = 9223372036854775808 := by decide
  rw [IntKind.wrap_i64] at hn
  unfold I64 at hr
  omega
theorem leg_hi {x : Cel} {D : Nat} {nhi : Int} (h1 : 1 ≤ D) (h2 : D ≤ 64) (hf : fitS x.hi D = true) (hr : I64 x.hi) (hn : nhi = IntKind.i64.wrap (x.hi + 1)) (hno : fitS nhi D = false) {v : Nat} (hv : v < 2 ^ D) : sgn v D ≤ x.hi := by
  have hs := sgn_lo h1 hv
  simp only [fitS, decide_eq_true_eq, decide_eq_false_iff_not] at hf hno
  have hp : (2 : Int) ^ (D - 1) ≤ 2 ^ 63 := two_le (by omega)
  have h63 : (2 : Int) ^ 63 = 9223372036854775808 := by decide
  rw [IntKind.wrap_i64] at hn
  unfold I64 at hr
  omega
set_option maxRecDepth 8000 in
set_option maxHeartbeats 8000000 in
theorem legal_c {P : Nat → Prop} {cels : List Cel} {cw : List Int} (hcw : cw = cels.map (·.w)) (hcl : cels.length ≤ 256) (hWS : WsOK cw) (hci : ∀ c ∈ cels, fitS c.lo c.w.toNat = true ∧ fitS c.hi c.w.toNat = true ∧ I64 c.lo ∧ I64 c.hi) {B : Nat} {X : Nat → Prop} {w : World} {gB : Nat} {cv : Value} {gc : Nat} {gv : Value} {G : List Gate} {n gF oF gW : Nat} {ty : TypeId} {cs : List Value} {S : SS} {vs : List Value} {ls : List (List Nat)} {fb : Nat} (h : BS B X P w gB cv gc gv G n) (hc : CsW P w cv cels) (hF : FRM X gc gv w G gF oF gW ty cs cw S vs ls fb) (hl : G.length ≤ 690000000) :
    Calls Try.prog 30 #[.pointer (some ⟨gB, 0, none⟩), .pointer (some ⟨gF, oF, none⟩)] w fun e w' => RB B X P gB cv gc gv w G n (262 * cels.length + 1) (fun inp => allC cels (legB (S inp)) cels.length) e w' := by
  obtain ⟨ca, cc, hcv, cv1, cv2⟩ := hc.form
  have HCV := Hid.mk hcv
  unfold maxLen at cv2
  have hcwl : cw.length = cels.length := by rw [hcw, List.length_map]
  have HCWE := Hid.mk hcw
  have HCWL := Hid.mk hcwl
  have HB := Hid.mk h
  have HF := Hid.mk hF
  have HC := Hid.mk hc
  have HWS := Hid.mk hWS
  have HCI := Hid.mk hci
  have HL := Hid.mk hl
  have i1 : (cels.length : Int) ≤ 256 := by omega
  have x0 := h.cells.1
  have H72 := Hid.mk (true_k h (by omega))
  clear h hF hc hWS hci hl hcw hcwl hcv
  go_enter Try.func30, Try.ntmps30
  go_wp2_with fail
  refine H72.out.mono ?_
  rintro e w1 ⟨gv1, G1, b1, rfl, b9, s9, x9, bt9⟩
  have HT1 : Hid (ST B X P w gB cv gc gv G n 1 w1 gv1 G1) := Hid.mk ⟨b9, s9, x9⟩
  have HB1 := Hid.mk bt9
  have y1 := b9.cells.2
  rw [HCV.out] at y1
  clear b9 s9 x9 bt9 x0
  go_wp2_with fail
  clear y1
  go_loopg [5, 20] cels.length (fun gk v5 v20 wr => ∃ (k : Nat) (gv2 : Value) (G2 : List Gate) (b2 : Nat), k + gk = cels.length ∧ v20 = .int .i64 k ∧ v5 = .int .i64 (b2 : Nat) ∧ ST B X P w gB cv gc gv G n (262 * k + 1) wr gv2 G2 ∧ Bt G2 b2 (fun inp => allC cels (legB (S inp)) k))
  case atStart => exact ⟨0, gv1, G1, b1, by omega, rfl, rfl, HT1.out, HB1.out.congr (fun inp => by simp [allC])⟩
  case round =>
    obtain ⟨k, gv2, G2, b2, hk, rfl, rfl, hst, hbt⟩ := hrel
    have HK := Hid.mk hk
    have HT2 := Hid.mk hst
    have HB2 := Hid.mk hbt
    have HSZ : Hid (G2.length + 400 ≤ 699000000) := Hid.mk (by have := HL.out; have := hst.len; omega)
    clear hk hst hbt
    by_cases hlt : k < cels.length
    · have j1 : (k : Int) < cels.length := by omega
      have j2 : (0 : Int) ≤ k := by omega
      have HC2 := Hid.mk (HC.out.step (HT2.out.kp HB.out))
      rw [HCV.out] at HC2
      obtain ⟨cb, co, hca, hcel⟩ := HC2.out.cell hlt
      subst hca
      have c0 := hcel 0 (by decide)
      have c1 := hcel 1 (by decide)
      have c2 := hcel 2 (by decide)
      have c3 := hcel 3 (by decide)
      have c4 := hcel 4 (by decide)
      simp only [celC, List.getElem?_cons_zero, List.getElem?_cons_succ, Nat.add_zero] at c0 c1 c2 c3 c4
      have HNX : Hid (∀ inp, allC cels (legB (S inp)) (k + 1) = (allC cels (legB (S inp)) k && legB (S inp) cels[k] k)) := Hid.mk (fun inp => allC_next _ _ k hlt)
      have hkw : k < cw.length := by rw [HCWL.out]; exact hlt
      have hwk : cw.getD k 0 = cels[k].w := by rw [HCWE.out, List.getD_eq_getElem?_getD, List.getElem?_map, List.getElem?_eq_getElem hlt]; rfl
      have hwok := HWS.out (cw.getD k 0) (by rw [List.getD_eq_getElem?_getD, List.getElem?_eq_getElem hkw]; exact List.getElem_mem hkw)
      have hini := HCI.out _ (List.getElem_mem hlt)
      generalize cels[k] = x at *
      obtain ⟨D, hD⟩ : ∃ D : Nat, x.w = D := ⟨x.w.toNat, by rw [hwk] at hwok; omega⟩
      have hD2 : 1 ≤ D ∧ D ≤ 64 := by rw [hwk, hD] at hwok; omega
      have HCWD : Hid ((cw.getD k 0).toNat = D) := Hid.mk (by rw [hwk, hD]; rfl)
      have HXD : Hid (x.w.toNat = D) := Hid.mk (by rw [hD]; rfl)
      rw [hD, Int.toNat_natCast] at hini
      rw [hD] at c0
      have HINI := Hid.mk hini
      have HKW := Hid.mk hkw
      have m1 : (k : Int) < cw.length := by omega
      clear hcel hwk hwok hD hini hkw
      go_upto_region 5 with fail
      obtain ⟨Z, hZ⟩ : ∃ Z, Z = wr.alloc (.cells #[.int .i64 (D : Nat), .bool x.inp, .int .u64 (x.ini : Nat), .int .i64 x.lo, .int .i64 x.hi] 70) := ⟨_, rfl⟩
      rw [← hZ]
      have kZ : Keep wr Z := by rw [hZ]; exact (Keep.refl wr).alloc _
      have aZ : Arr Z wr.heap.size 70 [.int .i64 (D : Nat), .bool x.inp, .int .u64 (x.ini : Nat), .int .i64 x.lo, .int .i64 x.hi] := by rw [hZ]; exact Arr.new wr 70 _
      have HTZ := Hid.mk (ST.keep HT2.out.bs kZ)
      have HXZ := Hid.mk ((HT2.out.trans HTZ.out).mono (Nat.le_refl _))
      have HAZ := Hid.mk aZ
      have HGZ : Hid (¬ fpC gc gv2 wr.heap.size) := Hid.mk (fun a => by have := (HT2.out.bs.cc.flt a).2; omega)
      have z1 : Z.cell? ⟨wr.heap.size, 1, none⟩ = some (.bool x.inp) := aZ.cell 1
      have z0 : Z.cell? ⟨wr.heap.size, 0, none⟩ = some (.int .i64 (D : Nat)) := aZ.cell 0
      have z3 : Z.cell? ⟨wr.heap.size, 3, none⟩ = some (.int .i64 x.lo) := aZ.cell 3
      generalize wr.heap.size = gZ at *
      clear hZ kZ aZ c0 c1 c2 c3 c4
      rcases Bool.eq_false_or_eq_true x.inp with hin | hin
      · have HIN := Hid.mk hin
        rw [hin] at z1
        clear hin
        have HVL : Hid (∀ inp, (S inp).at k < 2 ^ D) := Hid.mk (fun inp => by have h9 := (HF.out.ok inp).2 k HKW.out; rw [HCWD.out] at h9; exact h9)
        have HXa : Hid (ST B X P w gB cv gc gv G n (262 * k + 1) Z gv2 G2) := Hid.mk HXZ.out
        have HAZa := HAZ
        have HGZa := HGZ
        have HLTa : Hid (gZ < Z.heap.size) := Hid.mk HAZ.out.lt
        have HLNa : Hid (G2.length ≤ G2.length + 131) := Hid.mk (by omega)
        have HBa := HB2
        obtain ⟨nlo, hnlo⟩ : ∃ nlo, IntKind.i64.wrap (x.lo - 1) = nlo := ⟨_, rfl⟩
        have HNlo := Hid.mk hnlo
        have hrlo : -9223372036854775808 ≤ nlo ∧ nlo ≤ 9223372036854775807 := by rw [IntKind.wrap_i64] at hnlo; omega
        have y0 : Z.cell? ⟨gZ, 0, none⟩ = some (.int .i64 (D : Nat)) := HAZa.out.cell 0
        have y3 : Z.cell? ⟨gZ, 3, none⟩ = some (.int .i64 x.lo) := HAZa.out.cell 3
        have H56 := Hid.mk (fitsS_c nlo D hD2.1 hD2.2 hrlo.1 hrlo.2 Z)
        clear hrlo
        go_wp2_with fail
        refine H56.out.mono ?_
        rintro e w3 ⟨rfl, hw3⟩
        have hw4 := hw3.symm
        clear hw3
        subst hw4
        clear hnlo H56
        rcases Bool.eq_false_or_eq_true (fitS nlo D) with hfit | hfit
        · rw [hfit]
          clear hfit HNlo
          obtain ⟨uv, lu, u1, u2, u3, u4⟩ := (HXa.out.frm HB.out HF.out).word HKW.out
          rw [HCWD.out] at u4
          obtain ⟨ua, uc, huv, -, -⟩ := u3.sh u4
          subst huv
          obtain ⟨u, hu, hu64, hum⟩ := i64_u64 x.lo HINI.out.2.2.1.1 HINI.out.2.2.1.2
          have HSG : Hid (sgn (u % 2 ^ D) D = x.lo) := Hid.mk (by rw [hum D hD2.2]; exact mod_sgn hD2.1 HINI.out.1)
          clear hum
          have HU1 := Hid.mk u1
          have HU3 := Hid.mk u3
          have HU4 := Hid.mk u4
          have HS7 : Hid (∀ K Y gv' G', ST B X P Z gB cv gc gv2 G2 n K Y gv' G' → Y.cell? ⟨gB, 0, none⟩ = some (.pointer (some ⟨gc, 0, none⟩)) ∧ Y.cell? ⟨gF, oF, none⟩ = some (.slice (some ⟨gW, 0, none⟩) cw.length cw.length) ∧ Y.cell? ⟨gW, k, none⟩ = some (.slice ua D uc) ∧ Y.cell? ⟨gZ, 3, none⟩ = some (.int .i64 x.lo) ∧ Y.cell? ⟨gZ, 0, none⟩ = some (.int .i64 (D : Nat))) := Hid.mk (fun K Y gv' G' s => by
            have fa := (HXa.out.trans s).frm HB.out HF.out
            have a2 := fa.aw.cell k
            have a3 := (HXa.out.frm HB.out HF.out).aw.cell k
            have aZ := s.own HXa.out.bs HAZa.out HGZa.out
            exact ⟨s.bs.cells.1, fa.cells.1, by rw [a2, ← a3]; exact HU1.out, aZ.cell 3, aZ.cell 0⟩)
          have sd := HS7.out _ _ _ _ (ST.keep HXa.out.bs (Keep.refl Z).drew)
          have H66 := Hid.mk (const_k (HXa.out.bs.keep (Keep.refl Z).drew) u hu64 D hD2.2 (by have := HSZ.out; have := HLNa.out; omega))
          have H73 : Hid (∀ K Y gv' G' xa xc l, ST B X P Z gB cv gc gv2 G2 n K Y gv' G' → K ≤ 100 → WO (fpX gc gv' X) Y (.slice xa D xc) l → Wv G' l D (fun _ => u % 2 ^ D) → Calls Try.prog 73 #[.pointer (some ⟨gc, 0, none⟩), .slice ua D uc, .slice xa D xc] Y fun e w' => RB B X P gB cv gc gv' Y G' n 65 (fun i => decide (sgn ((S i).at k) D < x.lo)) e w') := Hid.mk (fun K Y gv' G' xa xc l s hK hx vx => by
            have h9 := slt_k s.bs (s.wo HU3.out) (s.wv HU4.out) hx vx hD2.1 hD2.2 (by have := HSZ.out; have := HLNa.out; have := s.len; omega)
            rw [HSG.out] at h9
            exact h9)
          have H70 : Hid (∀ K Y gv' G' b F, ST B X P Z gB cv gc gv2 G2 n K Y gv' G' → K ≤ 150 → Bt G' b F → Calls Try.prog 70 #[.pointer (some ⟨gc, 0, none⟩), .int .i64 (b : Nat)] Y fun e w' => RB B X P gB cv gc gv' Y G' n 1 (fun i => !F i) e w') := Hid.mk (fun K Y gv' G' b F s hK bt => not_k s.bs bt (by have := HSZ.out; have := HLNa.out; have := s.len; omega))
          have H31 : Hid (∀ K Y gv' G' b F, ST B X P Z gB cv gc gv2 G2 n K Y gv' G' → K ≤ 151 → Bt G' b F → Calls Try.prog 31 #[.pointer (some ⟨gc, 0, none⟩), .int .i64 (b2 : Nat), .int .i64 (b : Nat)] Y fun e w' => RB B X P gB cv gc gv' Y G' n 1 (fun i => allC cels (legB (S i)) k && F i) e w') := Hid.mk (fun K Y gv' G' b F s hK bt => and_k s.bs (s.bt HBa.out) bt (by have := HSZ.out; have := HLNa.out; have := s.len; omega))
          clear u1 u2 u3 u4 y0 y3 z0 z1 z3
          go_wp2_with fail
          go_region_held3 (fun w' => w'.cell? ⟨gB, 0, none⟩ = some (.pointer (some ⟨gc, 0, none⟩)) ∧ w'.cell? ⟨gF, oF, none⟩ = some (.slice (some ⟨gW, 0, none⟩) cw.length cw.length) ∧ w'.cell? ⟨gW, k, none⟩ = some (.slice ua D uc) ∧ w'.cell? ⟨gZ, 3, none⟩ = some (.int .i64 x.lo) ∧ w'.cell? ⟨gZ, 0, none⟩ = some (.int .i64 (D : Nat))) (with_reducible first | exact sd | exact sd4 | exact sd5)
            (first
              | (go_at_call 66; refine H66.out.mono ?_; rintro e w4 ⟨gv4, G4, l4, a4, c4, rfl, b9, s9, x9, wo9, wv9⟩; have HT4 : Hid (ST B X P Z gB cv gc gv2 G2 n 64 w4 gv4 G4) := Hid.mk (((ST.keep HXa.out.bs (Keep.refl Z).drew).trans ⟨b9, s9, x9⟩).mono (by omega)); have sd4 := HS7.out _ _ _ _ HT4.out; have C73 := Hid.mk (H73.out _ _ _ _ _ _ _ HT4.out (by omega) wo9 wv9); clear b9 s9 x9 wo9 wv9)
              | (go_at_call 73; refine C73.out.mono ?_; rintro e w5 ⟨gv5, G5, b5, rfl, b9, s9, x9, bt9⟩; have HT5 : Hid (ST B X P Z gB cv gc gv2 G2 n (64 + 65) w5 gv5 G5) := Hid.mk (HT4.out.trans ⟨b9, s9, x9⟩); have sd5 := HS7.out _ _ _ _ HT5.out; have HB5 := Hid.mk bt9; clear b9 s9 x9 bt9))
          rename_i hHd
          clear hHd sd sd4 sd5 H66 H73 C73 HU1 HU3 HU4 HS7 hu hu64
          have HT5d : Hid (ST B X P Z gB cv gc gv2 G2 n (64 + 65) w5.drew gv5 G5) := Hid.mk HT5.out.drew
          have C70 := Hid.mk (H70.out _ _ _ _ _ _ HT5d.out (by omega) HB5.out)
          have se : w5.drew.cell? ⟨gB, 0, none⟩ = some (.pointer (some ⟨gc, 0, none⟩)) := HT5d.out.bs.cells.1
          go_wp2_with fail
          go_region_held3 (fun w' => w'.cell? ⟨gB, 0, none⟩ = some (.pointer (some ⟨gc, 0, none⟩))) (with_reducible first | exact se | exact se6 | exact se7)
            (first
              | (go_at_call 70; refine C70.out.mono ?_; rintro e w6 ⟨gv6, G6, b6, rfl, b9, s9, x9, bt9⟩; have HT6 : Hid (ST B X P Z gB cv gc gv2 G2 n (64 + 65 + 1) w6 gv6 G6) := Hid.mk (HT5d.out.trans ⟨b9, s9, x9⟩); have se6 := HT6.out.bs.cells.1; have C31 := Hid.mk (H31.out _ _ _ _ _ _ HT6.out (by omega) bt9); clear b9 s9 x9 bt9)
              | (go_at_call 31; refine C31.out.mono ?_; rintro e w7 ⟨gv7, G7, b7, rfl, b9, s9, x9, bt9⟩; have HT7 : Hid (ST B X P Z gB cv gc gv2 G2 n (64 + 65 + 1 + 1) w7 gv7 G7) := Hid.mk (HT6.out.trans ⟨b9, s9, x9⟩); have se7 := HT7.out.bs.cells.1; have HB7 := Hid.mk bt9; clear b9 s9 x9 bt9))
          rename_i hHd
          clear hHd se se6 se7 H70 H31 C70 C31
          have HXb : Hid (ST B X P w gB cv gc gv G n (262 * k + 1 + 131) w7 gv7 G7) := Hid.mk ((HXa.out.trans HT7.out).mono (by omega))
          have HLNb : Hid (G7.length ≤ G2.length + 131) := Hid.mk (by have := HT7.out.len; omega)
          have HAZb : Hid (Arr w7 gZ 70 [.int .i64 (D : Nat), .bool x.inp, .int .u64 (x.ini : Nat), .int .i64 x.lo, .int .i64 x.hi]) := Hid.mk (HT7.out.own HXa.out.bs HAZa.out HGZa.out)
          have HGZb : Hid (¬ fpC gc gv7 gZ) := Hid.mk (fun a => by
            rcases HT7.out.st.2 gZ a with b | b
            · exact HGZa.out b
            · have := HLTa.out; omega)
          have HBb : Hid (Bt G7 b7 (fun inp => allC cels (legB (S inp)) k && !decide (sgn ((S inp).at k) D < x.lo))) := Hid.mk HB7.out
          have HLOb : Hid (∀ inp : Nat → Bool, True) := Hid.mk (fun _ => trivial)
          obtain ⟨wx, hwx⟩ : ∃ wx, wx = w7 := ⟨_, rfl⟩
          subst hwx
          obtain ⟨gvx, hgx⟩ : ∃ a, a = gv7 := ⟨_, rfl⟩
          subst hgx
          obtain ⟨Gx, hGx⟩ : ∃ a, a = G7 := ⟨_, rfl⟩
          subst hGx
          obtain ⟨bx, hbx⟩ : ∃ a, a = b7 := ⟨_, rfl⟩
          subst hbx
          clear HT7 HB7 HT6 HT5d HT5 HB5 HT4 HSG
          obtain ⟨nhi, hnhi⟩ : ∃ nhi, IntKind.i64.wrap (x.hi + 1) = nhi := ⟨_, rfl⟩
          have HNhi := Hid.mk hnhi
          have hrhi : -9223372036854775808 ≤ nhi ∧ nhi ≤ 9223372036854775807 := by rw [IntKind.wrap_i64] at hnhi; omega
          have y0 : wx.cell? ⟨gZ, 0, none⟩ = some (.int .i64 (D : Nat)) := HAZb.out.cell 0
          have y3 : wx.cell? ⟨gZ, 4, none⟩ = some (.int .i64 x.hi) := HAZb.out.cell 4
          have H56 := Hid.mk (fitsS_c nhi D hD2.1 hD2.2 hrhi.1 hrhi.2 wx)
          clear hrhi
          go_wp2_with fail
          refine H56.out.mono ?_
          rintro e w3 ⟨rfl, hw3⟩
          have hw4 := hw3.symm
          clear hw3
          subst hw4
          clear hnhi H56
          rcases Bool.eq_false_or_eq_true (fitS nhi D) with hfit | hfit
          · rw [hfit]
            clear hfit HNhi
            obtain ⟨uv, lu, u1, u2, u3, u4⟩ := (HXb.out.frm HB.out HF.out).word HKW.out
            rw [HCWD.out] at u4
            obtain ⟨ua, uc, huv, -, -⟩ := u3.sh u4
            subst huv
            obtain ⟨u, hu, hu64, hum⟩ := i64_u64 x.hi HINI.out.2.2.2.1 HINI.out.2.2.2.2
            have HSG : Hid (sgn (u % 2 ^ D) D = x.hi) := Hid.mk (by rw [hum D hD2.2]; exact mod_sgn hD2.1 HINI.out.2.1)
            clear hum
            have HU1 := Hid.mk u1
            have HU3 := Hid.mk u3
            have HU4 := Hid.mk u4
            have HS7 : Hid (∀ K Y gv' G', ST B X P wx gB cv gc gvx Gx n K Y gv' G' → Y.cell? ⟨gB, 0, none⟩ = some (.pointer (some ⟨gc, 0, none⟩)) ∧ Y.cell? ⟨gF, oF, none⟩ = some (.slice (some ⟨gW, 0, none⟩) cw.length cw.length) ∧ Y.cell? ⟨gW, k, none⟩ = some (.slice ua D uc) ∧ Y.cell? ⟨gZ, 4, none⟩ = some (.int .i64 x.hi) ∧ Y.cell? ⟨gZ, 0, none⟩ = some (.int .i64 (D : Nat))) := Hid.mk (fun K Y gv' G' s => by
              have fa := (HXb.out.trans s).frm HB.out HF.out
              have a2 := fa.aw.cell k
              have a3 := (HXb.out.frm HB.out HF.out).aw.cell k
              have aZ := s.own HXb.out.bs HAZb.out HGZb.out
              exact ⟨s.bs.cells.1, fa.cells.1, by rw [a2, ← a3]; exact HU1.out, aZ.cell 4, aZ.cell 0⟩)
            have sd := HS7.out _ _ _ _ (ST.keep HXb.out.bs (Keep.refl wx).drew)
            have H66 := Hid.mk (const_k (HXb.out.bs.keep (Keep.refl wx).drew) u hu64 D hD2.2 (by have := HSZ.out; have := HLNb.out; omega))
            have H73 : Hid (∀ K Y gv' G' xa xc l, ST B X P wx gB cv gc gvx Gx n K Y gv' G' → K ≤ 100 → WO (fpX gc gv' X) Y (.slice xa D xc) l → Wv G' l D (fun _ => u % 2 ^ D) → Calls Try.prog 73 #[.pointer (some ⟨gc, 0, none⟩), .slice xa D xc, .slice ua D uc] Y fun e w' => RB B X P gB cv gc gv' Y G' n 65 (fun i => decide (x.hi < sgn ((S i).at k) D)) e w') := Hid.mk (fun K Y gv' G' xa xc l s hK hx vx => by
              have h9 := slt_k s.bs hx vx (s.wo HU3.out) (s.wv HU4.out) hD2.1 hD2.2 (by have := HSZ.out; have := HLNb.out; have := s.len; omega)
              rw [HSG.out] at h9
              exact h9)
            have H70 : Hid (∀ K Y gv' G' b F, ST B X P wx gB cv gc gvx Gx n K Y gv' G' → K ≤ 150 → Bt G' b F → Calls Try.prog 70 #[.pointer (some ⟨gc, 0, none⟩), .int .i64 (b : Nat)] Y fun e w' => RB B X P gB cv gc gv' Y G' n 1 (fun i => !F i) e w') := Hid.mk (fun K Y gv' G' b F s hK bt => not_k s.bs bt (by have := HSZ.out; have := HLNb.out; have := s.len; omega))
            have H31 : Hid (∀ K Y gv' G' b F, ST B X P wx gB cv gc gvx Gx n K Y gv' G' → K ≤ 151 → Bt G' b F → Calls Try.prog 31 #[.pointer (some ⟨gc, 0, none⟩), .int .i64 (bx : Nat), .int .i64 (b : Nat)] Y fun e w' => RB B X P gB cv gc gv' Y G' n 1 (fun i => (allC cels (legB (S i)) k && !decide (sgn ((S i).at k) D < x.lo)) && F i) e w') := Hid.mk (fun K Y gv' G' b F s hK bt => and_k s.bs (s.bt HBb.out) bt (by have := HSZ.out; have := HLNb.out; have := s.len; omega))
            clear u1 u2 u3 u4 y0 y3 
            go_wp2_with fail
            go_region_held3 (fun w' => w'.cell? ⟨gB, 0, none⟩ = some (.pointer (some ⟨gc, 0, none⟩)) ∧ w'.cell? ⟨gF, oF, none⟩ = some (.slice (some ⟨gW, 0, none⟩) cw.length cw.length) ∧ w'.cell? ⟨gW, k, none⟩ = some (.slice ua D uc) ∧ w'.cell? ⟨gZ, 4, none⟩ = some (.int .i64 x.hi) ∧ w'.cell? ⟨gZ, 0, none⟩ = some (.int .i64 (D : Nat))) (with_reducible first | exact sd | exact sd4 | exact sd5)
              (first
                | (go_at_call 66; refine H66.out.mono ?_; rintro e w4 ⟨gv4, G4, l4, a4, c4, rfl, b9, s9, x9, wo9, wv9⟩; have HT4 : Hid (ST B X P wx gB cv gc gvx Gx n 64 w4 gv4 G4) := Hid.mk (((ST.keep HXb.out.bs (Keep.refl wx).drew).trans ⟨b9, s9, x9⟩).mono (by omega)); have sd4 := HS7.out _ _ _ _ HT4.out; have C73 := Hid.mk (H73.out _ _ _ _ _ _ _ HT4.out (by omega) wo9 wv9); clear b9 s9 x9 wo9 wv9)
                | (go_at_call 73; refine C73.out.mono ?_; rintro e w5 ⟨gv5, G5, b5, rfl, b9, s9, x9, bt9⟩; have HT5 : Hid (ST B X P wx gB cv gc gvx Gx n (64 + 65) w5 gv5 G5) := Hid.mk (HT4.out.trans ⟨b9, s9, x9⟩); have sd5 := HS7.out _ _ _ _ HT5.out; have HB5 := Hid.mk bt9; clear b9 s9 x9 bt9))
            rename_i hHd
            clear hHd sd sd4 sd5 H66 H73 C73 HU1 HU3 HU4 HS7 hu hu64
            have HT5d : Hid (ST B X P wx gB cv gc gvx Gx n (64 + 65) w5.drew gv5 G5) := Hid.mk HT5.out.drew
            have C70 := Hid.mk (H70.out _ _ _ _ _ _ HT5d.out (by omega) HB5.out)
            have se : w5.drew.cell? ⟨gB, 0, none⟩ = some (.pointer (some ⟨gc, 0, none⟩)) := HT5d.out.bs.cells.1
            go_wp2_with fail
            go_region_held3 (fun w' => w'.cell? ⟨gB, 0, none⟩ = some (.pointer (some ⟨gc, 0, none⟩))) (with_reducible first | exact se | exact se6 | exact se7)
              (first
                | (go_at_call 70; refine C70.out.mono ?_; rintro e w6 ⟨gv6, G6, b6, rfl, b9, s9, x9, bt9⟩; have HT6 : Hid (ST B X P wx gB cv gc gvx Gx n (64 + 65 + 1) w6 gv6 G6) := Hid.mk (HT5d.out.trans ⟨b9, s9, x9⟩); have se6 := HT6.out.bs.cells.1; have C31 := Hid.mk (H31.out _ _ _ _ _ _ HT6.out (by omega) bt9); clear b9 s9 x9 bt9)
                | (go_at_call 31; refine C31.out.mono ?_; rintro e w7 ⟨gv7, G7, b7, rfl, b9, s9, x9, bt9⟩; have HT7 : Hid (ST B X P wx gB cv gc gvx Gx n (64 + 65 + 1 + 1) w7 gv7 G7) := Hid.mk (HT6.out.trans ⟨b9, s9, x9⟩); have se7 := HT7.out.bs.cells.1; have HB7 := Hid.mk bt9; clear b9 s9 x9 bt9))
            rename_i hHd
            clear hHd se se6 se7 H70 H31 C70 C31
            have HFIN := Hid.mk ((HXb.out.trans HT7.out).mono (Nat.le_refl _))
            go_wp2_with fail
            go_roundg (gk - 1)
            case measure => have := HK.out; omega
            case rel => exact ⟨k + 1, gv7, G7, b7, by have := HK.out; omega, by go_num, rfl, HFIN.out.mono (by have := HK.out; omega), HB7.out.congr (fun inp => by rw [HNX.out, legB, HIN.out, HXD.out]; have hl := HLOb.out inp; revert hl; generalize allC cels (legB (S inp)) k = A; generalize sgn ((S inp).at k) D = z; intro hl; simp only [Bool.not_true, Bool.false_or]; by_cases c1 : x.lo ≤ z <;> by_cases c2 : z ≤ x.hi <;> cases A <;> simp_all <;> omega)⟩
          · rw [hfit]
            have HNF := Hid.mk hfit
            clear hfit
            go_wp2_with fail
            go_roundg (gk - 1)
            case measure => have := HK.out; omega
            case rel => exact ⟨k + 1, gvx, Gx, bx, by have := HK.out; omega, by go_num, rfl, HXb.out.mono (by have := HK.out; omega), HBb.out.congr (fun inp => by rw [HNX.out, legB, HIN.out, HXD.out]; have hl := HLOb.out inp; have hh := leg_hi hD2.1 hD2.2 HINI.out.2.1 HINI.out.2.2.2 HNhi.out.symm HNF.out (HVL.out inp); revert hl hh; generalize allC cels (legB (S inp)) k = A; generalize sgn ((S inp).at k) D = z; intro hl hh; simp only [Bool.not_true, Bool.false_or]; by_cases c1 : x.lo ≤ z <;> cases A <;> simp_all <;> omega)⟩
        · rw [hfit]
          have HNF := Hid.mk hfit
          clear hfit
          have HLOa : Hid (∀ inp, x.lo ≤ sgn ((S inp).at k) D) := Hid.mk (fun inp => leg_lo hD2.1 hD2.2 HINI.out.1 HINI.out.2.2.1 HNlo.out.symm HNF.out (HVL.out inp))
          clear y0 y3 z0 z1 z3
          obtain ⟨nhi, hnhi⟩ : ∃ nhi, IntKind.i64.wrap (x.hi + 1) = nhi := ⟨_, rfl⟩
          have HNhi := Hid.mk hnhi
          have hrhi : -9223372036854775808 ≤ nhi ∧ nhi ≤ 9223372036854775807 := by rw [IntKind.wrap_i64] at hnhi; omega
          have y0 : Z.cell? ⟨gZ, 0, none⟩ = some (.int .i64 (D : Nat)) := HAZa.out.cell 0
          have y3 : Z.cell? ⟨gZ, 4, none⟩ = some (.int .i64 x.hi) := HAZa.out.cell 4
          have H56 := Hid.mk (fitsS_c nhi D hD2.1 hD2.2 hrhi.1 hrhi.2 Z)
          clear hrhi
          go_wp2_with fail
          refine H56.out.mono ?_
          rintro e w3 ⟨rfl, hw3⟩
          have hw4 := hw3.symm
          clear hw3
          subst hw4
          clear hnhi H56
          rcases Bool.eq_false_or_eq_true (fitS nhi D) with hfit | hfit
          · rw [hfit]
            clear hfit HNhi
            obtain ⟨uv, lu, u1, u2, u3, u4⟩ := (HXa.out.frm HB.out HF.out).word HKW.out
            rw [HCWD.out] at u4
            obtain ⟨ua, uc, huv, -, -⟩ := u3.sh u4
            subst huv
            obtain ⟨u, hu, hu64, hum⟩ := i64_u64 x.hi HINI.out.2.2.2.1 HINI.out.2.2.2.2
            have HSG : Hid (sgn (u % 2 ^ D) D = x.hi) := Hid.mk (by rw [hum D hD2.2]; exact mod_sgn hD2.1 HINI.out.2.1)
            clear hum
            have HU1 := Hid.mk u1
            have HU3 := Hid.mk u3
            have HU4 := Hid.mk u4
            have HS7 : Hid (∀ K Y gv' G', ST B X P Z gB cv gc gv2 G2 n K Y gv' G' → Y.cell? ⟨gB, 0, none⟩ = some (.pointer (some ⟨gc, 0, none⟩)) ∧ Y.cell? ⟨gF, oF, none⟩ = some (.slice (some ⟨gW, 0, none⟩) cw.length cw.length) ∧ Y.cell? ⟨gW, k, none⟩ = some (.slice ua D uc) ∧ Y.cell? ⟨gZ, 4, none⟩ = some (.int .i64 x.hi) ∧ Y.cell? ⟨gZ, 0, none⟩ = some (.int .i64 (D : Nat))) := Hid.mk (fun K Y gv' G' s => by
              have fa := (HXa.out.trans s).frm HB.out HF.out
              have a2 := fa.aw.cell k
              have a3 := (HXa.out.frm HB.out HF.out).aw.cell k
              have aZ := s.own HXa.out.bs HAZa.out HGZa.out
              exact ⟨s.bs.cells.1, fa.cells.1, by rw [a2, ← a3]; exact HU1.out, aZ.cell 4, aZ.cell 0⟩)
            have sd := HS7.out _ _ _ _ (ST.keep HXa.out.bs (Keep.refl Z).drew)
            have H66 := Hid.mk (const_k (HXa.out.bs.keep (Keep.refl Z).drew) u hu64 D hD2.2 (by have := HSZ.out; have := HLNa.out; omega))
            have H73 : Hid (∀ K Y gv' G' xa xc l, ST B X P Z gB cv gc gv2 G2 n K Y gv' G' → K ≤ 100 → WO (fpX gc gv' X) Y (.slice xa D xc) l → Wv G' l D (fun _ => u % 2 ^ D) → Calls Try.prog 73 #[.pointer (some ⟨gc, 0, none⟩), .slice xa D xc, .slice ua D uc] Y fun e w' => RB B X P gB cv gc gv' Y G' n 65 (fun i => decide (x.hi < sgn ((S i).at k) D)) e w') := Hid.mk (fun K Y gv' G' xa xc l s hK hx vx => by
              have h9 := slt_k s.bs hx vx (s.wo HU3.out) (s.wv HU4.out) hD2.1 hD2.2 (by have := HSZ.out; have := HLNa.out; have := s.len; omega)
              rw [HSG.out] at h9
              exact h9)
            have H70 : Hid (∀ K Y gv' G' b F, ST B X P Z gB cv gc gv2 G2 n K Y gv' G' → K ≤ 150 → Bt G' b F → Calls Try.prog 70 #[.pointer (some ⟨gc, 0, none⟩), .int .i64 (b : Nat)] Y fun e w' => RB B X P gB cv gc gv' Y G' n 1 (fun i => !F i) e w') := Hid.mk (fun K Y gv' G' b F s hK bt => not_k s.bs bt (by have := HSZ.out; have := HLNa.out; have := s.len; omega))
            have H31 : Hid (∀ K Y gv' G' b F, ST B X P Z gB cv gc gv2 G2 n K Y gv' G' → K ≤ 151 → Bt G' b F → Calls Try.prog 31 #[.pointer (some ⟨gc, 0, none⟩), .int .i64 (b2 : Nat), .int .i64 (b : Nat)] Y fun e w' => RB B X P gB cv gc gv' Y G' n 1 (fun i => allC cels (legB (S i)) k && F i) e w') := Hid.mk (fun K Y gv' G' b F s hK bt => and_k s.bs (s.bt HBa.out) bt (by have := HSZ.out; have := HLNa.out; have := s.len; omega))
            clear u1 u2 u3 u4 y0 y3 
            go_wp2_with fail
            go_region_held3 (fun w' => w'.cell? ⟨gB, 0, none⟩ = some (.pointer (some ⟨gc, 0, none⟩)) ∧ w'.cell? ⟨gF, oF, none⟩ = some (.slice (some ⟨gW, 0, none⟩) cw.length cw.length) ∧ w'.cell? ⟨gW, k, none⟩ = some (.slice ua D uc) ∧ w'.cell? ⟨gZ, 4, none⟩ = some (.int .i64 x.hi) ∧ w'.cell? ⟨gZ, 0, none⟩ = some (.int .i64 (D : Nat))) (with_reducible first | exact sd | exact sd4 | exact sd5)
              (first
                | (go_at_call 66; refine H66.out.mono ?_; rintro e w4 ⟨gv4, G4, l4, a4, c4, rfl, b9, s9, x9, wo9, wv9⟩; have HT4 : Hid (ST B X P Z gB cv gc gv2 G2 n 64 w4 gv4 G4) := Hid.mk (((ST.keep HXa.out.bs (Keep.refl Z).drew).trans ⟨b9, s9, x9⟩).mono (by omega)); have sd4 := HS7.out _ _ _ _ HT4.out; have C73 := Hid.mk (H73.out _ _ _ _ _ _ _ HT4.out (by omega) wo9 wv9); clear b9 s9 x9 wo9 wv9)
                | (go_at_call 73; refine C73.out.mono ?_; rintro e w5 ⟨gv5, G5, b5, rfl, b9, s9, x9, bt9⟩; have HT5 : Hid (ST B X P Z gB cv gc gv2 G2 n (64 + 65) w5 gv5 G5) := Hid.mk (HT4.out.trans ⟨b9, s9, x9⟩); have sd5 := HS7.out _ _ _ _ HT5.out; have HB5 := Hid.mk bt9; clear b9 s9 x9 bt9))
            rename_i hHd
            clear hHd sd sd4 sd5 H66 H73 C73 HU1 HU3 HU4 HS7 hu hu64
            have HT5d : Hid (ST B X P Z gB cv gc gv2 G2 n (64 + 65) w5.drew gv5 G5) := Hid.mk HT5.out.drew
            have C70 := Hid.mk (H70.out _ _ _ _ _ _ HT5d.out (by omega) HB5.out)
            have se : w5.drew.cell? ⟨gB, 0, none⟩ = some (.pointer (some ⟨gc, 0, none⟩)) := HT5d.out.bs.cells.1
            go_wp2_with fail
            go_region_held3 (fun w' => w'.cell? ⟨gB, 0, none⟩ = some (.pointer (some ⟨gc, 0, none⟩))) (with_reducible first | exact se | exact se6 | exact se7)
              (first
                | (go_at_call 70; refine C70.out.mono ?_; rintro e w6 ⟨gv6, G6, b6, rfl, b9, s9, x9, bt9⟩; have HT6 : Hid (ST B X P Z gB cv gc gv2 G2 n (64 + 65 + 1) w6 gv6 G6) := Hid.mk (HT5d.out.trans ⟨b9, s9, x9⟩); have se6 := HT6.out.bs.cells.1; have C31 := Hid.mk (H31.out _ _ _ _ _ _ HT6.out (by omega) bt9); clear b9 s9 x9 bt9)
                | (go_at_call 31; refine C31.out.mono ?_; rintro e w7 ⟨gv7, G7, b7, rfl, b9, s9, x9, bt9⟩; have HT7 : Hid (ST B X P Z gB cv gc gv2 G2 n (64 + 65 + 1 + 1) w7 gv7 G7) := Hid.mk (HT6.out.trans ⟨b9, s9, x9⟩); have se7 := HT7.out.bs.cells.1; have HB7 := Hid.mk bt9; clear b9 s9 x9 bt9))
            rename_i hHd
            clear hHd se se6 se7 H70 H31 C70 C31
            have HFIN := Hid.mk ((HXa.out.trans HT7.out).mono (Nat.le_refl _))
            go_wp2_with fail
            go_roundg (gk - 1)
            case measure => have := HK.out; omega
            case rel => exact ⟨k + 1, gv7, G7, b7, by have := HK.out; omega, by go_num, rfl, HFIN.out.mono (by have := HK.out; omega), HB7.out.congr (fun inp => by rw [HNX.out, legB, HIN.out, HXD.out]; have hl := HLOa.out inp; revert hl; generalize allC cels (legB (S inp)) k = A; generalize sgn ((S inp).at k) D = z; intro hl; simp only [Bool.not_true, Bool.false_or]; by_cases c1 : x.lo ≤ z <;> by_cases c2 : z ≤ x.hi <;> cases A <;> simp_all <;> omega)⟩
          · rw [hfit]
            have HNF := Hid.mk hfit
            clear hfit
            go_wp2_with fail
            go_roundg (gk - 1)
            case measure => have := HK.out; omega
            case rel => exact ⟨k + 1, gv2, G2, b2, by have := HK.out; omega, by go_num, rfl, HXa.out.mono (by have := HK.out; omega), HBa.out.congr (fun inp => by rw [HNX.out, legB, HIN.out, HXD.out]; have hl := HLOa.out inp; have hh := leg_hi hD2.1 hD2.2 HINI.out.2.1 HINI.out.2.2.2 HNhi.out.symm HNF.out (HVL.out inp); revert hl hh; generalize allC cels (legB (S inp)) k = A; generalize sgn ((S inp).at k) D = z; intro hl hh; simp only [Bool.not_true, Bool.false_or]; by_cases c1 : x.lo ≤ z <;> cases A <;> simp_all <;> omega)⟩
      · have HIN := Hid.mk hin
        rw [hin] at z1
        clear hin
        go_wp2_with fail
        go_roundg (gk - 1)
        case measure => have := HK.out; omega
        case rel => exact ⟨k + 1, gv2, G2, b2, by have := HK.out; omega, by go_num, rfl, HXZ.out.mono (by omega), HB2.out.congr (fun inp => by rw [HNX.out, legB, HIN.out]; simp)⟩
    · have j1 : ¬ (k : Int) < cels.length := by omega
      obtain rfl : k = cels.length := by have := HK.out; omega
      go_wp2_with fail
      go_ret
      exact ⟨gv2, G2, b2, rfl, HT2.out.bs, HT2.out.st, HT2.out.ex, HB2.out⟩
end Go.Proofs.Qxb6500772a
