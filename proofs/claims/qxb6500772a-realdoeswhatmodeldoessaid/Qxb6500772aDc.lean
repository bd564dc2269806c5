/- blast: hits. -/
import Derived.Test.Qxb6500772aDd
import Derived.Deep.RegionHeld3
namespace Go.Proofs.Qxb6500772a
open Go.RowKit Go.Qm
set_option linter.unusedVariables false
set_option linter.unusedSimpArgs false
attribute [local go_sem ↓] Go.wp_at_zero Go.wp_at_succ
theorem sgn_nat {v wd k : Nat} (h1 : 1 ≤ wd) (hv : v < 2 ^ wd) (hk : (k : Int) < 2 ^ (wd - 1)) : (v = k % 2 ^ wd) ↔ sgn v wd = (k : Int) := by
  have hp : 2 ^ wd = 2 * 2 ^ (wd - 1) := by
    obtain ⟨u, rfl⟩ : ∃ u, wd = u + 1 := ⟨wd - 1, by omega⟩
    rw [Nat.add_sub_cancel, Nat.pow_succ]; omega
  have hc : ((2 ^ (wd - 1) : Nat) : Int) = (2 : Int) ^ (wd - 1) := by push_cast; rfl
  have hc2 : ((2 ^ wd : Nat) : Int) = (2 : Int) ^ wd := by push_cast; rfl
  rw [← hc] at hk
  unfold sgn
  rw [tb_top hv h1, Nat.mod_eq_of_lt (by omega), ← hc2]
  by_cases h : 2 ^ (wd - 1) ≤ v
  · simp only [h, decide_true, if_true]; omega
  · simp only [h, decide_false, Bool.false_eq_true, if_false]; omega
/-- What hits leaves. -/
def RetH (B : Nat) (X : Nat → Prop) (gc : Nat) (gv : Value) (w : World) (G : List Gate) (n k wd L : Nat) (f : WF) (e : Ending) (w' : World) : Prop :=
  ∃ gv' G' hv hs nb, e = .returned (.tuple #[hv, .int .i64 ((nb : Nat) : Int)]) ∧ CC B X w' gc gv' G' n ∧ Stp (fpC gc gv) (fpC gc gv') w w' ∧ Ext k G G' ∧ WO (fpX gc gv' X) w' hv hs ∧ hs.length = L ∧
    (∀ i (h : i < hs.length), Bt G' hs[i] (fun inp => decide (sgn (f inp) wd = (i : Int)))) ∧ Bt G' nb (fun inp => decide (sgn (f inp) wd < 0 ∨ (L : Int) ≤ sgn (f inp) wd))
/-- The loop's state. -/
structure HL (B : Nat) (X P : Nat → Prop) (w : World) (gB : Nat) (cv : Value) (gc : Nat) (gv : Value) (G : List Gate) (n wd L gH : Nat) (f : WF) (k : Nat) (wr : World) (gv1 : Value) (G1 : List Gate) (sm : Nat) (hs : List Nat) : Prop where
  bs : BS B (fun q => X q ∨ q = gH) P wr gB cv gc gv1 G1 n
  sy : SY (fun q => q = gH) gc gv gv1 w wr
  ex : Ext (140 * k) G G1
  ar : Arr wr gH 46 ((hs ++ List.replicate (L - k) 0).map bv)
  ln : hs.length = k
  hb : ∀ i (h : i < hs.length), Bt G1 hs[i] (fun inp => decide (sgn (f inp) wd = (i : Int)))
  sb : Bt G1 sm (fun inp => decide (0 ≤ sgn (f inp) wd ∧ sgn (f inp) wd < (k : Int)))
section
variable {B : Nat} {X P : Nat → Prop} {w : World} {gB : Nat} {cv : Value} {gc : Nat} {gv : Value} {G : List Gate} {n wd L gH : Nat} {f : WF} {k : Nat} {wr : World} {gv1 : Value} {G1 : List Gate} {sm : Nat} {hs : List Nat}
theorem HL.cell (h : HL B X P w gB cv gc gv G n wd L gH f k wr gv1 G1 sm hs) (b : Nat) : Arr (wr.setCell ⟨gH, k, none⟩ (.int .i64 (b : Nat))) gH 46 (((hs ++ List.replicate (L - k) 0).map bv).set k (bv b)) := h.ar.set k (bv b)
theorem hset {hs : List Nat} {k L : Nat} (hl : hs.length = k) (hk : k < L) (b : Nat) : ((hs ++ List.replicate (L - k) 0).map bv).set k (bv b) = ((hs ++ [b]) ++ List.replicate (L - (k + 1)) 0).map bv := by
  rw [← List.map_set]
  congr 1
  rw [List.set_append_right _ _ (by omega), hl, Nat.sub_self, show L - k = (L - (k + 1)) + 1 by omega, List.replicate_succ, List.set_cons_zero, List.append_assoc]
  rfl
theorem hset2 {hs : List Nat} {k L : Nat} (hl : hs.length = k) (hk : k < L) (a b : Nat) : ((((hs ++ List.replicate (L - k) 0).map bv).set k (bv a)).set k (bv b)) = ((hs ++ [b]) ++ List.replicate (L - (k + 1)) 0).map bv := by
  rw [List.set_set, hset hl hk]
theorem HL.next (h : HL B X P w gB cv gc gv G n wd L gH f k wr gv1 G1 sm hs) {w' : World} {gv2 : Value} {G2 : List Gate} {sm' b : Nat} {F : BF} (bs : BS B (fun q => X q ∨ q = gH) P w' gB cv gc gv2 G2 n) (sy : SY (fun q => q = gH) gc gv gv2 w w') (ex : Ext 140 G1 G2) (ar : Arr w' gH 46 (((hs ++ [b]) ++ List.replicate (L - (k + 1)) 0).map bv)) (hb : Bt G2 b (fun inp => decide (sgn (f inp) wd = (k : Int)))) (hs' : Bt G2 sm' F) (hF : ∀ inp, F inp = (decide (0 ≤ sgn (f inp) wd ∧ sgn (f inp) wd < (k : Int)) || decide (sgn (f inp) wd = (k : Int)))) : HL B X P w gB cv gc gv G n wd L gH f (k + 1) w' gv2 G2 sm' (hs ++ [b]) := by
  refine ⟨bs, sy, (h.ex.trans ex).mono (by omega), ar, by simp [h.ln], fun i hi => ?_, hs'.congr (fun inp => ?_)⟩
  · by_cases e : i < hs.length
    · rw [List.getElem_append_left e]; exact (h.hb i e).ext ex.pre
    · have e2 : i = hs.length := by simp at hi; omega
      have hk := h.ln
      subst e2
      rw [List.getElem_append_right (by omega)]
      rw [← hk] at hb
      simpa using hb
  · rw [hF inp, ← Bool.decide_or]
    exact decide_eq_decide.2 (by push_cast; omega)
end
set_option maxRecDepth 4000 in
set_option maxHeartbeats 4000000 in
theorem hits_c {B : Nat} {X P : Nat → Prop} {w : World} {gB : Nat} {cv : Value} {gc : Nat} {gv : Value} {G : List Gate} {n : Nat} (h : BS B X P w gB cv gc gv G n) {xv : Value} {x : List Nat} {wd : Nat} {f : WF} (hx : WO (fpX gc gv X) w xv x) (vx : Wv G x wd f) (h1 : 1 ≤ wd) (h2 : wd ≤ 64) (L : Nat) (hL : L ≤ 1000000) (hl : G.length + 140 * L ≤ 700000000) :
    Calls Try.prog 76 #[.pointer (some ⟨gB, 0, none⟩), xv, .int .i64 (L : Nat)] w fun e w' => RetH B X gc gv w G n (140 * L + 1) wd L f e w' := by
  obtain ⟨xa, xc, hxv, x1, x2⟩ := hx.form
  have HXO := Hid.mk hx
  rw [vx.len] at hxv
  subst hxv
  have HVX := Hid.mk vx
  have HH := Hid.mk h
  have HHL := Hid.mk hl
  have i1 : (1 : Int) ≤ wd := by omega
  have i2 : (wd : Int) ≤ 64 := by omega
  have i3 : (L : Int) ≤ 1000000 := by omega
  have hmk := run_make1 (P := Try.prog) Try.underlying95 inf46 rfl (L : Int) (L : Int) (by omega) (by omega) (by omega) (by omega)
  simp only [Int.toNat_natCast] at hmk
  obtain ⟨w1, hw1⟩ : ∃ w1, w1 = w.alloc (.cells (rep L (.int .i64 0)) 46) := ⟨_, rfl⟩
  have hmkw := hmk w
  rw [← hw1] at hmkw
  have K1 : Keep w w1 := by rw [hw1]; exact (Keep.refl w).alloc _
  have A1 : Arr w1 w.heap.size 46 (([] ++ List.replicate (L - 0) 0).map bv) := by
    have e : (([] ++ List.replicate (L - 0) 0 : List Nat).map bv) = List.replicate L (.int .i64 0) := by simp [bv]
    rw [e, hw1, rep_eq]
    exact Arr.new w 46 _
  have B1 : BS B (fun q => X q ∨ q = w.heap.size) P w1 gB cv gc gv G n := h.more K1 (fun q a => a.imp id (fun e => ⟨by omega, by rw [e]; exact A1.lt⟩))
  have H0 : HL B X P w gB cv gc gv G n wd L w.heap.size f 0 w1 gv G 0 [] := ⟨B1, SY.keep K1, (Ext.refl h.wf).mono (by omega), A1, rfl, fun i hi => by simp at hi, h.wf.2.congr (fun inp => by
    symm; simp)⟩
  have HH0 := Hid.mk H0
  obtain ⟨x0, -⟩ := B1.cells
  have HGH : Hid (∀ q, q = w.heap.size → w.heap.size ≤ q) := Hid.mk (fun q e => by omega)
  obtain ⟨gH, hgH⟩ : ∃ gH, gH = w.heap.size := ⟨_, rfl⟩
  rw [← hgH] at HH0 hmkw
  have HG := Hid.mk hgH
  clear hmk hw1 K1 A1 B1 H0 h hx vx hl hgH HGH
  go_enter Try.func76, Try.ntmps76
  go_wp2_with fail
  refine (false_c gc _).mono ?_
  rintro e w2 ⟨rfl, hw⟩
  subst hw
  clear x0
  go_wp2_with fail
  go_loopg [9, 20] L (fun gk v9 v20 wr => ∃ (k : Nat) (gv1 : Value) (G1 : List Gate) (sm : Nat) (hs : List Nat), k + gk = L ∧ v20 = .int .i64 k ∧ v9 = .int .i64 (sm : Nat) ∧ HL B X P w gB cv gc gv G n wd L gH f k wr gv1 G1 sm hs)
  case atStart => exact ⟨0, gv, G, 0, [], by omega, rfl, rfl, HH0.out⟩
  case round =>
    obtain ⟨k, gv1, G1, sm, hs, hk, rfl, rfl, hl0⟩ := hrel
    have HK := Hid.mk hk
    have HL0 := Hid.mk hl0
    obtain ⟨x0, -⟩ := hl0.bs.cells
    have hlG : G1.length ≤ G.length + 140 * k := hl0.ex.len
    have HLG := Hid.mk hlG
    clear hlG
    by_cases hlt : k < L
    · have j1 : (k : Int) < L := by omega
      have j2 : (0 : Int) ≤ k := by omega
      have hnfp : gH ≠ gB := fun e => (hl0.bs.hx gH (Or.inr rfl)).2.2 (by rw [e]; exact hl0.bs.pb)
      have c1 : ∃ u, wr.cell? ⟨gH, k, none⟩ = some u := by
        refine ⟨_, (hl0.ar.cell k).trans (List.getElem?_eq_getElem (by simp [hl0.ln]; omega))⟩
      obtain ⟨u1, c1⟩ := c1
      have fz := hl0.ar.frozen k
      have B2 : BS B (fun q => X q ∨ q = gH) P (wr.setCell ⟨gH, k, none⟩ (.int .i64 0)) gB cv gc gv1 G1 n := hl0.bs.set (Or.inr rfl) _
      have A2 : Arr (wr.setCell ⟨gH, k, none⟩ (.int .i64 0)) gH 46 (((hs ++ [0]) ++ List.replicate (L - (k + 1)) 0).map bv) := by rw [← hset hl0.ln hlt 0]; exact hl0.cell 0
      have S2 := hl0.sy.set (b := gH) (i := k) (Or.inl rfl) (.int .i64 0)
      have HB2 := Hid.mk B2
      have HA2 := Hid.mk A2
      have HS2 := Hid.mk S2
      obtain ⟨y0, -⟩ := B2.cells
      have z0 : (wr.setCell ⟨gH, k, none⟩ (.int .i64 0)).cell? ⟨gH, k, none⟩ = some (.int .i64 0) := by
        have := A2.cell k
        simpa [hl0.ln, bv] using this
      have zf := A2.frozen k
      clear hl0 hk B2 A2 S2
      go_wp2_with fail
      refine (false_c gc _).mono ?_
      rintro e w2 ⟨rfl, hw⟩
      subst hw
      go_wp2_with fail
      have FC := fitsS_c (k : Int) wd (by omega) (by omega) (by omega) (by omega)
      refine (FC _).mono ?_
      rintro e w3 ⟨rfl, hw⟩
      subst hw
      clear x0 c1 fz FC
      generalize w2.setCell ⟨gH, k, none⟩ (.int .i64 0) = W at *
      have HXW : Hid (WO (fpX gc gv1 (fun q => X q ∨ q = gH)) W (.slice xa wd xc) x) := Hid.mk (by
        have h9 := HXO.out
        have h8 := (h9.moreX (Keep.refl w) (Z := fun q => X q ∨ q = gH) (fun q a => a.imp id (fun e => by rw [e, HG.out]; exact Nat.le_refl _)))
        exact h8.stepY (fun q a => Or.inr a) HS2.out)
      have HVW : Hid (Wv G1 x wd f) := Hid.mk (HVX.out.ext HL0.out.ex.pre)
      have hl8 : G1.length + 140 ≤ 700000000 := by have := HLG.out; have := HHL.out; omega
      have HL8 := Hid.mk hl8
      clear hl8
      by_cases hf : fitS (k : Int) wd = true
      · rw [hf]
        have HF := Hid.mk hf
        have H66 := Hid.mk (const_k (HB2.out.keep (Keep.refl W).drew) k (by omega) wd h2 (by have := HL8.out; omega))
        have wk : IntKind.u64.wrap (k : Int) = k := wrap_u64' k (by omega)
        have yd : W.drew.cell? ⟨gB, 0, none⟩ = some (.pointer (some ⟨gc, 0, none⟩)) := y0
        have H71 : Hid (∀ w4 gv2 G2 l2 va vc, BS B (fun q => X q ∨ q = gH) P w4 gB cv gc gv2 G2 n → Stp (fpC gc gv1) (fpC gc gv2) W.drew w4 → Ext 64 G1 G2 → WO (fpX gc gv2 (fun q => X q ∨ q = gH)) w4 (.slice va wd vc) l2 → Wv G2 l2 wd (fun _ => k % 2 ^ wd) → Calls Try.prog 71 #[.pointer (some ⟨gc, 0, none⟩), .slice xa wd xc, .slice va wd vc] w4 fun e w' => RB B (fun q => X q ∨ q = gH) P gB cv gc gv2 w4 G2 n 65 (fun i => decide (f i = k % 2 ^ wd)) e w') := Hid.mk (fun w4 gv2 G2 l2 va vc b s e wo wv => eq_k b (HXW.out.stepX ((Stp.keep ((Keep.refl W).drew)).trans s)) (HVW.out.ext e.pre) wo wv (by omega) h2 (by have := HL8.out; have := e.len; omega))
        have HZ : Hid (∀ w5 gv3, Stp (fpC gc gv1) (fpC gc gv3) W.drew w5 → w5.cell? ⟨gH, k, none⟩ = some (.int .i64 0) ∧ w5.frozen? ⟨gH, k, none⟩ = false) := Hid.mk (fun w5 gv3 s => by
          have s2 := (Stp.keep ((Keep.refl W).drew)).trans s
          have a5 := s2.1.arr (HB2.out.hx gH (Or.inr rfl)).2.1 HA2.out
          have ln := HL0.out.ln
          exact ⟨by rw [a5.cell]; simp [ln, bv], a5.frozen k⟩)
        clear hf
        go_wp2_with fail
        go_region_held3 (fun w' => w'.cell? ⟨gB, 0, none⟩ = some (.pointer (some ⟨gc, 0, none⟩))) (with_reducible first | exact y0 | exact yd | exact y4 | exact y5 | exact y6)
          (first
            | (go_at_call 66; refine H66.out.mono ?_; rintro e w4 ⟨gv2, G2, l2, va, vc, rfl, b4, s4, e4, wo4, wv4⟩; have C71 := Hid.mk (H71.out _ _ _ _ _ _ b4 s4 e4 wo4 wv4); obtain ⟨y4, -⟩ := b4.cells; have HB4 := Hid.mk b4; have HS4 := Hid.mk s4; have HE4 := Hid.mk e4; clear b4 s4 e4 wo4 wv4)
            | (go_at_call 71; refine C71.out.mono ?_; rintro e w5 ⟨gv3, G3, b3, rfl, b5, s5, e5, bt5⟩; obtain ⟨y5, -⟩ := b5.cells; have y6 := (b5.set (b := gH) (i := k) (Or.inr rfl) (.int .i64 ((b3 : Nat) : Int))).cells.1; obtain ⟨z5, zf5⟩ := HZ.out _ _ (HS4.out.trans s5); have HB5 := Hid.mk b5; have HS5 := Hid.mk s5; have HE5 := Hid.mk e5; have HT5 := Hid.mk bt5; clear b5 s5 e5 bt5))
        rename_i hHd
        clear hHd z5 zf5 y5 y4
        have HB6 := Hid.mk (HB5.out.set (b := gH) (i := k) (Or.inr rfl) (.int .i64 ((b3 : Nat) : Int)))
        have HA6 : Hid (Arr (w5.setCell ⟨gH, k, none⟩ (.int .i64 ((b3 : Nat) : Int))) gH 46 (((hs ++ [b3]) ++ List.replicate (L - (k + 1)) 0).map bv)) := Hid.mk (by
          have s2 := ((Stp.keep ((Keep.refl W).drew)).trans HS4.out).trans HS5.out
          have a5 := s2.1.arr (HB2.out.hx gH (Or.inr rfl)).2.1 HA2.out
          have a6 := a5.set k (bv b3)
          rw [← hset HL0.out.ln hlt, hset2 HL0.out.ln hlt] at a6
          exact a6)
        have HS6 := Hid.mk (((HS2.out.trans (SY.of ((Stp.keep ((Keep.refl W).drew)).trans HS4.out))).trans (SY.of HS5.out)).set (b := gH) (i := k) (Or.inl rfl) (.int .i64 ((b3 : Nat) : Int)))
        have z6 : (w5.setCell ⟨gH, k, none⟩ (.int .i64 ((b3 : Nat) : Int))).cell? ⟨gH, k, none⟩ = some (.int .i64 ((b3 : Nat) : Int)) := by
          have ln := HL0.out.ln
          rw [HA6.out.cell]; simp [ln, bv]
        generalize w5.setCell ⟨gH, k, none⟩ (.int .i64 ((b3 : Nat) : Int)) = W6 at *
        have HT6 : Hid (Bt G3 b3 (fun inp => decide (sgn (f inp) wd = (k : Int)))) := Hid.mk (HT5.out.congr (fun inp => by
          have hh := HF.out
          simp only [fitS, decide_eq_true_eq] at hh
          exact decide_eq_decide.2 (sgn_nat (by omega) (HVX.out.lt inp) hh.2)))
        have H78 := Hid.mk (or_k HB6.out (HL0.out.sb.ext (HE4.out.trans HE5.out).pre) HT6.out (by have := HL8.out; have := HE4.out.len; have := HE5.out.len; omega))
        go_wp2_with fail
        refine H78.out.mono ?_
        rintro e w7 ⟨gv4, G4, b4, rfl, b7, s7, e7, bt7⟩
        have HB7 := Hid.mk b7
        have HS7 := Hid.mk s7
        have HE7 := Hid.mk e7
        have HT7 := Hid.mk bt7
        clear b7 s7 e7 bt7 y0 yd y6 z0 zf z6
        go_wp2_with fail
        go_roundg (gk - 1)
        case measure => have := HK.out; omega
        case rel => exact ⟨k + 1, gv4, G4, b4, _, by have := HK.out; omega, by go_num, rfl, HL0.out.next HB7.out (HS6.out.trans (SY.of HS7.out)) (((HE4.out.trans HE5.out).trans HE7.out).mono (by omega)) (HS7.out.1.arr (HB6.out.hx gH (Or.inr rfl)).2.1 HA6.out) (HT6.out.ext HE7.out.pre) HT7.out (fun _ => rfl)⟩
      · have hf2 : fitS (k : Int) wd = false := by simpa using hf
        rw [hf2]
        have HF := Hid.mk hf2
        clear hf hf2
        go_wp2_with fail
        go_roundg (gk - 1)
        case measure => have := HK.out; omega
        case rel =>
          have hn : ∀ inp, decide (sgn (f inp) wd = (k : Int)) = false := fun inp => by
            have hh := HF.out
            have h9 := sgn_lo h1 (HVX.out.lt inp)
            simp only [fitS, decide_eq_false_iff_not] at hh
            simp
            have hp := two_pos (wd - 1)
            omega
          exact ⟨k + 1, gv1, G1, sm, _, by have := HK.out; omega, by go_num, rfl, HL0.out.next HB2.out HS2.out ((Ext.refl HB2.out.wf).mono (by omega)) HA2.out (HB2.out.wf.2.congr (fun inp => (hn inp).symm)) HL0.out.sb (fun inp => by rw [hn inp, Bool.or_false])⟩
    · have j1 : ¬ (k : Int) < L := by omega
      obtain rfl : k = L := by have := HK.out; omega
      have H70 := Hid.mk (not_k hl0.bs hl0.sb (by have := HLG.out; have := HHL.out; omega))
      clear hl0 hk
      go_wp2_with fail
      refine H70.out.mono ?_
      rintro e w7 ⟨gv4, G4, b4, rfl, b7, s7, e7, bt7⟩
      have HB7 := Hid.mk b7
      have HS7 := Hid.mk s7
      have HE7 := Hid.mk e7
      have HT7 := Hid.mk bt7
      clear b7 s7 e7 bt7 x0
      go_wp2_with fail
      go_ret2
      have hA := HS7.out.1.arr (HL0.out.bs.hx gH (Or.inr rfl)).2.1 HL0.out.ar
      rw [Nat.sub_self, List.replicate_zero, List.append_nil] at hA
      have hsy := HL0.out.sy.trans (SY.of HS7.out)
      refine ⟨gv4, G4, .slice (some ⟨gH, 0, none⟩) k k, hs, b4, rfl, HB7.out.cc.weak (fun q a => Or.inl a), ⟨⟨hsy.fr.os, hsy.fr.tape, hsy.fr.output, hsy.fr.size, fun q hq hn => hsy.fr.block q hq (fun a => ?_)⟩, hsy.nw⟩, HL0.out.ex.trans HE7.out, ⟨⟨some ⟨gH, 0, none⟩, k, by rw [List.length_map, HL0.out.ln], by rw [List.length_map, HL0.out.ln]; exact Nat.le_refl _, by simp only [maxLen]; omega, fun i u hu => ⟨gH, 0, rfl, by rw [Nat.zero_add, hA.cell]; exact hu⟩⟩, fun q hq => ?_⟩, HL0.out.ln, fun i hi => (HL0.out.hb i hi).ext HE7.out.pre, HT7.out.congr (fun inp => ?_)⟩
      · rcases a with a | a
        · exact hn a
        · rw [a, HG.out] at hq; omega
      · obtain rfl : gH = q := by simpa [Value.ownBlock] using hq
        refine ⟨fun a => ?_, hA.lt⟩
        rcases a with a | a
        · exact (HB7.out.hx gH (Or.inr rfl)).2.1 a
        · have := HH.out.hX gH a
          rw [HG.out] at this; omega
      · rw [← decide_not]
        exact decide_eq_decide.2 (by omega)
end Go.Proofs.Qxb6500772a
