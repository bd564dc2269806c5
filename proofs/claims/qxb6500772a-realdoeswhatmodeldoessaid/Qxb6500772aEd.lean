/- blast: initial. -/
import Derived.Test.Qxb6500772aDo
import Derived.Test.Qxb6500772aTk
import Derived.Deep.RegionHeld3
namespace Go.Proofs.Qxb6500772a
open Go.RowKit Go.Qm
set_option linter.unusedVariables false
set_option linter.unusedSimpArgs false
attribute [local go_sem ↓] Go.wp_at_zero Go.wp_at_succ
/-- All of the first k cells are as p says. -/
def allC (cels : List Cel) (p : Cel → Nat → Bool) (k : Nat) : Bool := (cels.take k).zipIdx.all (fun z => p z.1 z.2)
theorem allC_next (cels : List Cel) (p : Cel → Nat → Bool) (k : Nat) (h : k < cels.length) : allC cels p (k + 1) = (allC cels p k && p cels[k] k) := by
  unfold allC
  rw [List.take_succ_eq_append_getElem h, List.zipIdx_append, List.all_append]
  simp [Nat.min_eq_left (Nat.le_of_lt h)]
set_option maxRecDepth 8000 in
set_option maxHeartbeats 8000000 in
theorem initial_c {P : Nat → Prop} {cels : List Cel} {cw : List Int} (hcw : cw = cels.map (·.w)) (hcl : cels.length ≤ 256) (hWS : WsOK cw) (hci : ∀ c ∈ cels, c.ini < 2 ^ c.w.toNat) {B : Nat} {X : Nat → Prop} {w : World} {gB : Nat} {cv : Value} {gc : Nat} {gv : Value} {G : List Gate} {n gF oF gW : Nat} {ty : TypeId} {cs : List Value} {S : SS} {vs : List Value} {ls : List (List Nat)} {fb : Nat} (h : BS B X P w gB cv gc gv G n) (hc : CsW P w cv cels) (hF : FRM X gc gv w G gF oF gW ty cs cw S vs ls fb) (hl : G.length ≤ 690000000) :
    Calls Try.prog 29 #[.pointer (some ⟨gB, 0, none⟩), .pointer (some ⟨gF, oF, none⟩)] w fun e w' => RB B X P gB cv gc gv w G n (131 * cels.length + 1) (fun inp => !(S inp).fault && allC cels (fun c i => c.inp || decide ((S inp).at i = c.ini)) cels.length) e w' := by
  obtain ⟨ca, cc, hcv, cv1, cv2⟩ := hc.form
  have HCV := Hid.mk hcv
  unfold maxLen at cv2
  have hcwl : cw.length = cels.length := by rw [hcw, List.length_map]
  have HCWE := Hid.mk hcw
  have HCWL := Hid.mk hcwl
  have HB := Hid.mk h
  have HF := Hid.mk hF
  have HC := Hid.mk hc
  have HWS := Hid.mk hWS
  have HCI := Hid.mk hci
  have HL := Hid.mk hl
  have i1 : (cels.length : Int) ≤ 256 := by omega
  have sd : w.drew.cell? ⟨gB, 0, none⟩ = some (.pointer (some ⟨gc, 0, none⟩)) ∧ w.drew.cell? ⟨gF, oF + 1, none⟩ = some (.int .i64 (fb : Nat)) := ⟨h.cells.1, hF.cells.2.1⟩
  have H70 := Hid.mk (not_k (h.keep (Keep.refl w).drew) hF.bf (by omega))
  have HSA : Hid (∀ K Z gv' G', ST B X P w gB cv gc gv G n K Z gv' G' → Z.cell? ⟨gB, 0, none⟩ = some (.pointer (some ⟨gc, 0, none⟩)) ∧ Z.cell? ⟨gF, oF + 1, none⟩ = some (.int .i64 (fb : Nat))) := Hid.mk (fun K Z gv' G' s => ⟨s.bs.cells.1, (s.frm HB.out HF.out).cells.2.1⟩)
  clear h hF hc hWS hci hl hcw hcwl hcv
  go_enter Try.func29, Try.ntmps29
  go_wp2_with fail
  go_region_held3 (fun w' => w'.cell? ⟨gB, 0, none⟩ = some (.pointer (some ⟨gc, 0, none⟩)) ∧ w'.cell? ⟨gF, oF + 1, none⟩ = some (.int .i64 (fb : Nat))) (with_reducible first | exact sd | exact sd1)
    (first | (go_at_call 70; refine H70.out.mono ?_; rintro e w1 ⟨gv1, G1, b1, rfl, b9, s9, x9, bt9⟩; have HT1 : Hid (ST B X P w gB cv gc gv G n 1 w1 gv1 G1) := Hid.mk (((ST.keep HB.out (Keep.refl w).drew).trans ⟨b9, s9, x9⟩).mono (by omega)); have sd1 := HSA.out _ _ _ _ HT1.out; have HB1 := Hid.mk bt9; clear b9 s9 x9 bt9))
  rename_i hHd
  clear hHd sd sd1
  have y1 := HT1.out.bs.cells.2
  rw [HCV.out] at y1
  go_wp2_with fail
  clear y1
  go_loopg [5, 22] cels.length (fun gk v5 v22 wr => ∃ (k : Nat) (gv2 : Value) (G2 : List Gate) (b2 : Nat), k + gk = cels.length ∧ v22 = .int .i64 k ∧ v5 = .int .i64 (b2 : Nat) ∧ ST B X P w gB cv gc gv G n (131 * k + 1) wr gv2 G2 ∧ Bt G2 b2 (fun inp => !(S inp).fault && allC cels (fun c i => c.inp || decide ((S inp).at i = c.ini)) k))
  case atStart => exact ⟨0, gv1, G1, b1, by omega, rfl, rfl, HT1.out, HB1.out.congr (fun inp => by simp [allC])⟩
  case round =>
    obtain ⟨k, gv2, G2, b2, hk, rfl, rfl, hst, hbt⟩ := hrel
    have HK := Hid.mk hk
    have HT2 := Hid.mk hst
    have HB2 := Hid.mk hbt
    have HSZ : Hid (G2.length + 200 ≤ 699000000) := Hid.mk (by have := HL.out; have := hst.len; omega)
    clear hk hst hbt
    by_cases hlt : k < cels.length
    · have j1 : (k : Int) < cels.length := by omega
      have j2 : (0 : Int) ≤ k := by omega
      have HC2 := Hid.mk (HC.out.step (HT2.out.kp HB.out))
      rw [HCV.out] at HC2
      obtain ⟨cb, co, hca, hcel⟩ := HC2.out.cell hlt
      subst hca
      have c0 := hcel 0 (by decide)
      have c1 := hcel 1 (by decide)
      have c2 := hcel 2 (by decide)
      have c3 := hcel 3 (by decide)
      have c4 := hcel 4 (by decide)
      simp only [celC, List.getElem?_cons_zero, List.getElem?_cons_succ, Nat.add_zero] at c0 c1 c2 c3 c4
      have HNX : Hid (∀ inp, allC cels (fun c i => c.inp || decide ((S inp).at i = c.ini)) (k + 1) = (allC cels (fun c i => c.inp || decide ((S inp).at i = c.ini)) k && (cels[k].inp || decide ((S inp).at k = cels[k].ini)))) := Hid.mk (fun inp => allC_next _ _ k hlt)
      have hkw : k < cw.length := by rw [HCWL.out]; exact hlt
      have hwk : cw.getD k 0 = cels[k].w := by rw [HCWE.out, List.getD_eq_getElem?_getD, List.getElem?_map, List.getElem?_eq_getElem hlt]; rfl
      have hwok := HWS.out (cw.getD k 0) (by rw [List.getD_eq_getElem?_getD, List.getElem?_eq_getElem hkw]; exact List.getElem_mem hkw)
      have hini := HCI.out _ (List.getElem_mem hlt)
      generalize cels[k] = x at *
      obtain ⟨D, hD⟩ : ∃ D : Nat, x.w = D := ⟨x.w.toNat, by rw [hwk] at hwok; omega⟩
      have hD2 : 1 ≤ D ∧ D ≤ 64 := by rw [hwk, hD] at hwok; omega
      have HCWD : Hid ((cw.getD k 0).toNat = D) := Hid.mk (by rw [hwk, hD]; rfl)
      rw [hD, Int.toNat_natCast] at hini
      have hi64 : x.ini < 2 ^ 64 := Nat.lt_of_lt_of_le hini (Nat.pow_le_pow_right (by decide) hD2.2)
      rw [hD] at c0
      have HINI := Hid.mk hini
      have HKW := Hid.mk hkw
      have m1 : (k : Int) < cw.length := by omega
      clear hcel hwk hwok hD hini hkw
      go_upto_region 5 with fail
      obtain ⟨Z, hZ⟩ : ∃ Z, Z = wr.alloc (.cells #[.int .i64 (D : Nat), .bool x.inp, .int .u64 (x.ini : Nat), .int .i64 x.lo, .int .i64 x.hi] 70) := ⟨_, rfl⟩
      rw [← hZ]
      have kZ : Keep wr Z := by rw [hZ]; exact (Keep.refl wr).alloc _
      have aZ : Arr Z wr.heap.size 70 [.int .i64 (D : Nat), .bool x.inp, .int .u64 (x.ini : Nat), .int .i64 x.lo, .int .i64 x.hi] := by rw [hZ]; exact Arr.new wr 70 _
      have HTZ := Hid.mk (ST.keep HT2.out.bs kZ)
      have HXZ := Hid.mk ((HT2.out.trans HTZ.out).mono (Nat.le_refl _))
      have HAZ := Hid.mk aZ
      have HGZ : Hid (¬ fpC gc gv2 wr.heap.size) := Hid.mk (fun a => by have := (HT2.out.bs.cc.flt a).2; omega)
      have z1 : Z.cell? ⟨wr.heap.size, 1, none⟩ = some (.bool x.inp) := aZ.cell 1
      generalize wr.heap.size = gZ at *
      clear hZ kZ aZ c0 c1 c2 c3 c4
      rcases Bool.eq_false_or_eq_true x.inp with hin | hin
      · rw [hin] at z1 HNX
        clear hin
        go_wp2_with fail
        go_roundg (gk - 1)
        case measure => have := HK.out; omega
        case rel => exact ⟨k + 1, gv2, G2, b2, by have := HK.out; omega, by go_num, rfl, HXZ.out.mono (by omega), HB2.out.congr (fun inp => by rw [HNX.out]; simp)⟩
      · rw [hin] at z1 HNX
        clear hin
        obtain ⟨uv, lu, u1, u2, u3, u4⟩ := (HXZ.out.frm HB.out HF.out).word HKW.out
        rw [HCWD.out] at u4
        obtain ⟨ua, uc, huv, -, -⟩ := u3.sh u4
        subst huv
        have HU1 := Hid.mk u1
        have HU3 := Hid.mk u3
        have HU4 := Hid.mk u4
        have HS6 : Hid (∀ K Y gv' G', ST B X P Z gB cv gc gv2 G2 n K Y gv' G' → Y.cell? ⟨gB, 0, none⟩ = some (.pointer (some ⟨gc, 0, none⟩)) ∧ Y.cell? ⟨gF, oF, none⟩ = some (.slice (some ⟨gW, 0, none⟩) cw.length cw.length) ∧ Y.cell? ⟨gW, k, none⟩ = some (.slice ua D uc) ∧ Y.cell? ⟨gZ, 2, none⟩ = some (.int .u64 (x.ini : Nat)) ∧ Y.cell? ⟨gZ, 0, none⟩ = some (.int .i64 (D : Nat))) := Hid.mk (fun K Y gv' G' s => by
          have fa := (HXZ.out.trans s).frm HB.out HF.out
          have a2 := fa.aw.cell k
          have a3 := (HXZ.out.frm HB.out HF.out).aw.cell k
          have aZ := s.own HTZ.out.bs HAZ.out HGZ.out
          exact ⟨s.bs.cells.1, fa.cells.1, by rw [a2, ← a3]; exact HU1.out, aZ.cell 2, aZ.cell 0⟩)
        have sd := HS6.out _ _ _ _ (ST.keep HTZ.out.bs (Keep.refl Z).drew)
        have H66 := Hid.mk (const_k (HTZ.out.bs.keep (Keep.refl Z).drew) x.ini hi64 D hD2.2 (by have := HSZ.out; omega))
        rw [Nat.mod_eq_of_lt HINI.out] at H66
        have H71 : Hid (∀ K Y gv' G' xa xc l, ST B X P Z gB cv gc gv2 G2 n K Y gv' G' → K ≤ 100 → WO (fpX gc gv' X) Y (.slice xa D xc) l → Wv G' l D (fun _ => x.ini) → Calls Try.prog 71 #[.pointer (some ⟨gc, 0, none⟩), .slice ua D uc, .slice xa D xc] Y fun e w' => RB B X P gB cv gc gv' Y G' n 65 (fun i => decide ((S i).at k = x.ini)) e w') := Hid.mk (fun K Y gv' G' xa xc l s hK hx vx => eq_k s.bs (s.wo HU3.out) (s.wv HU4.out) hx vx hD2.1 hD2.2 (by have := HSZ.out; have := s.len; omega))
        have H31 : Hid (∀ K Y gv' G' b F, ST B X P Z gB cv gc gv2 G2 n K Y gv' G' → K ≤ 150 → Bt G' b F → Calls Try.prog 31 #[.pointer (some ⟨gc, 0, none⟩), .int .i64 (b2 : Nat), .int .i64 (b : Nat)] Y fun e w' => RB B X P gB cv gc gv' Y G' n 1 (fun i => (!(S i).fault && allC cels (fun c j => c.inp || decide ((S i).at j = c.ini)) k) && F i) e w') := Hid.mk (fun K Y gv' G' b F s hK bt => and_k s.bs (s.bt HB2.out) bt (by have := HSZ.out; have := s.len; omega))
        clear u1 u2 u3 u4
        go_wp2_with fail
        go_region_held3 (fun w' => w'.cell? ⟨gB, 0, none⟩ = some (.pointer (some ⟨gc, 0, none⟩)) ∧ w'.cell? ⟨gF, oF, none⟩ = some (.slice (some ⟨gW, 0, none⟩) cw.length cw.length) ∧ w'.cell? ⟨gW, k, none⟩ = some (.slice ua D uc) ∧ w'.cell? ⟨gZ, 2, none⟩ = some (.int .u64 (x.ini : Nat)) ∧ w'.cell? ⟨gZ, 0, none⟩ = some (.int .i64 (D : Nat))) (with_reducible first | exact sd | exact sd4 | exact sd5 | exact sd6)
          (first
            | (go_at_call 66; refine H66.out.mono ?_; rintro e w4 ⟨gv4, G4, l4, a4, c4, rfl, b9, s9, x9, wo9, wv9⟩; have HT4 : Hid (ST B X P Z gB cv gc gv2 G2 n 64 w4 gv4 G4) := Hid.mk (((ST.keep HTZ.out.bs (Keep.refl Z).drew).trans ⟨b9, s9, x9⟩).mono (by omega)); have sd4 := HS6.out _ _ _ _ HT4.out; have C71 := Hid.mk (H71.out _ _ _ _ _ _ _ HT4.out (by omega) wo9 wv9); clear b9 s9 x9 wo9 wv9)
            | (go_at_call 71; refine C71.out.mono ?_; rintro e w5 ⟨gv5, G5, b5, rfl, b9, s9, x9, bt9⟩; have HT5 : Hid (ST B X P Z gB cv gc gv2 G2 n (64 + 65) w5 gv5 G5) := Hid.mk (HT4.out.trans ⟨b9, s9, x9⟩); have sd5 := HS6.out _ _ _ _ HT5.out; have C31 := Hid.mk (H31.out _ _ _ _ _ _ HT5.out (by omega) bt9); clear b9 s9 x9 bt9)
            | (go_at_call 31; refine C31.out.mono ?_; rintro e w6 ⟨gv6, G6, b6, rfl, b9, s9, x9, bt9⟩; have HT6 : Hid (ST B X P Z gB cv gc gv2 G2 n (64 + 65 + 1) w6 gv6 G6) := Hid.mk (HT5.out.trans ⟨b9, s9, x9⟩); have sd6 := HS6.out _ _ _ _ HT6.out; have HB6 := Hid.mk bt9; clear b9 s9 x9 bt9))
        rename_i hHd
        clear hHd sd sd4 sd5 sd6 z1
        go_wp2_with fail
        go_roundg (gk - 1)
        case measure => have := HK.out; omega
        case rel => exact ⟨k + 1, gv6, G6, b6, by have := HK.out; omega, by go_num, rfl, (HXZ.out.trans HT6.out).mono (by omega), HB6.out.congr (fun inp => by rw [HNX.out, Bool.and_assoc]; simp)⟩
    · have j1 : ¬ (k : Int) < cels.length := by omega
      obtain rfl : k = cels.length := by have := HK.out; omega
      go_wp2_with fail
      go_ret
      exact ⟨gv2, G2, b2, rfl, HT2.out.bs, HT2.out.st, HT2.out.ex, HB2.out⟩
end Go.Proofs.Qxb6500772a
