/- blast: equal. -/
import Derived.Test.Qxb6500772aEd
import Derived.Test.Qxb6500772aEf
import Derived.Test.Qxb6500772aDu
import Derived.Test.Qxb6500772aDv
namespace Go.Proofs.Qxb6500772a
open Go.RowKit Go.Qm
set_option linter.unusedVariables false
set_option linter.unusedSimpArgs false
attribute [local go_sem ↓] Go.wp_at_zero Go.wp_at_succ
set_option maxRecDepth 8000 in
set_option maxHeartbeats 8000000 in
theorem equal_c {P : Nat → Prop} {cels : List Cel} {cw cn : List Int} (hcw : cw = cels.map (·.w)) (hcn : cn = cels.map (fun c => if c.inp = true then 0 else c.w)) (hcl : cels.length ≤ 256) (hWS : WsOK cw) {B : Nat} {X : Nat → Prop} {w : World} {gB : Nat} {cv : Value} {gc : Nat} {gv : Value} {G : List Gate} {n gF oF gW : Nat} {ty : TypeId} {cs : List Value} {S : SS} {vs : List Value} {ls : List (List Nat)} {fb : Nat} {gO oG gV : Nat} {ty2 : TypeId} {cs2 : List Value} {U : SS} {vs2 : List Value} {ls2 : List (List Nat)} {fb2 : Nat} (h : BS B X P w gB cv gc gv G n) (hc : CsW P w cv cels) (hF : FRM X gc gv w G gF oF gW ty cs cw S vs ls fb) (hO : FRM X gc gv w G gO oG gV ty2 cs2 cn U vs2 ls2 fb2) (hl : G.length ≤ 690000000) :
    Calls Try.prog 32 #[.pointer (some ⟨gB, 0, none⟩), .pointer (some ⟨gF, oF, none⟩), .pointer (some ⟨gO, oG, none⟩)] w fun e w' => RB B X P gB cv gc gv w G n (66 * cels.length + 65) (fun inp => decide ((S inp).fault = (U inp).fault) && allC cels (fun c i => c.inp || decide ((S inp).at i = (U inp).at i)) cels.length) e w' := by
  obtain ⟨ca, cc, hcv, cv1, cv2⟩ := hc.form
  have HCV := Hid.mk hcv
  unfold maxLen at cv2
  have hcwl : cw.length = cels.length := by rw [hcw, List.length_map]
  have hcnl : cn.length = cels.length := by rw [hcn, List.length_map]
  have HCWE := Hid.mk hcw
  have HCNE := Hid.mk hcn
  have HCWL := Hid.mk hcwl
  have HCNL := Hid.mk hcnl
  have HB := Hid.mk h
  have HF := Hid.mk hF
  have HO := Hid.mk hO
  have HC := Hid.mk hc
  have HWS := Hid.mk hWS
  have HL := Hid.mk hl
  have i1 : (cels.length : Int) ≤ 256 := by omega
  clear h hF hO hc hWS hl hcw hcn hcwl hcnl hcv
  go_enter Try.func32, Try.ntmps32
  go_upto_region 1 with fail
  refine q1_c gB gc gF oF gO oG fb fb2 rfl rfl rfl rfl (fun bit W => ∃ gv9 G9, ST B X P w gB cv gc gv G n 65 W gv9 G9 ∧ Bt G9 bit (fun inp => decide ((S inp).fault = (U inp).fault))) ?_ ?_ ?_ ?_
  · intro W k9
    have s9 : ST B X P w gB cv gc gv G n 0 W gv G := ST.keep HB.out ((Keep.refl w).drew.trans k9)
    exact ⟨s9.bs.cells.1, (s9.frm HB.out HF.out).cells.2.1, (s9.frm HB.out HO.out).cells.2.1⟩
  · rintro bit W ⟨gv9, G9, s9, bt9⟩
    exact ⟨s9.bs.cells.1, (s9.frm HB.out HF.out).cells.2.1, (s9.frm HB.out HO.out).cells.2.1⟩
  · intro W ga gb k9 aA aB hA9 hB9
    have k8 := (Keep.refl w).drew.trans k9
    refine (eq_k (HB.out.keep k8) (WO.ofArr HB.out k8 aA hA9) HF.out.bf.word (WO.ofArr HB.out k8 aB hB9) HO.out.bf.word (by decide) (by decide) (by have := HL.out; omega)).mono ?_
    rintro e w9 ⟨gv9, G9, bit, e9, b9, s9, x9, bt9⟩
    exact ⟨bit, e9, gv9, G9, ((ST.keep HB.out k8).trans ⟨b9, s9, x9⟩).mono (by omega), bt9.congr (fun inp => by cases (S inp).fault <;> cases (U inp).fault <;> simp)⟩
  rintro ⟨ga9, gb9, b1⟩ w1 ⟨gv1, G1, s9, bt9⟩
  simp only [lay, q1L, List.foldl_cons, List.foldl_nil]
  simp only [put_lit, List.set_cons_succ, List.set_cons_zero]
  have HT1 := Hid.mk s9
  have HB1 := Hid.mk bt9
  clear s9 bt9
  have y1 := HT1.out.bs.cells.2
  rw [HCV.out] at y1
  go_wp2_with fail
  clear y1
  go_loopg [7, 30] cels.length (fun gk v5 v22 wr => ∃ (k : Nat) (gv2 : Value) (G2 : List Gate) (b2 : Nat), k + gk = cels.length ∧ v22 = .int .i64 k ∧ v5 = .int .i64 (b2 : Nat) ∧ ST B X P w gB cv gc gv G n (66 * k + 65) wr gv2 G2 ∧ Bt G2 b2 (fun inp => decide ((S inp).fault = (U inp).fault) && allC cels (fun c i => c.inp || decide ((S inp).at i = (U inp).at i)) k))
  case atStart => exact ⟨0, gv1, G1, b1, by omega, rfl, rfl, HT1.out, HB1.out.congr (fun inp => by simp [allC])⟩
  case round =>
    obtain ⟨k, gv2, G2, b2, hk, rfl, rfl, hst, hbt⟩ := hrel
    have HK := Hid.mk hk
    have HT2 := Hid.mk hst
    have HB2 := Hid.mk hbt
    have HSZ : Hid (G2.length + 200 ≤ 699000000) := Hid.mk (by have := HL.out; have := hst.len; omega)
    clear hk hst hbt
    by_cases hlt : k < cels.length
    · have j1 : (k : Int) < cels.length := by omega
      have j2 : (0 : Int) ≤ k := by omega
      have HC2 := Hid.mk (HC.out.step (HT2.out.kp HB.out))
      rw [HCV.out] at HC2
      obtain ⟨cb, co, hca, hcel⟩ := HC2.out.cell hlt
      subst hca
      have c0 := hcel 0 (by decide)
      have c1 := hcel 1 (by decide)
      have c2 := hcel 2 (by decide)
      have c3 := hcel 3 (by decide)
      have c4 := hcel 4 (by decide)
      simp only [celC, List.getElem?_cons_zero, List.getElem?_cons_succ, Nat.add_zero] at c0 c1 c2 c3 c4
      have HNX : Hid (∀ inp, allC cels (fun c i => c.inp || decide ((S inp).at i = (U inp).at i)) (k + 1) = (allC cels (fun c i => c.inp || decide ((S inp).at i = (U inp).at i)) k && (cels[k].inp || decide ((S inp).at k = (U inp).at k)))) := Hid.mk (fun inp => allC_next _ _ k hlt)
      have hkw : k < cw.length := by rw [HCWL.out]; exact hlt
      have hkn : k < cn.length := by rw [HCNL.out]; exact hlt
      have hwk : cw.getD k 0 = cels[k].w := by rw [HCWE.out, List.getD_eq_getElem?_getD, List.getElem?_map, List.getElem?_eq_getElem hlt]; rfl
      have hwn : cn.getD k 0 = (if cels[k].inp = true then 0 else cels[k].w) := by rw [HCNE.out, List.getD_eq_getElem?_getD, List.getElem?_map, List.getElem?_eq_getElem hlt]; rfl
      have hwok := HWS.out (cw.getD k 0) (by rw [List.getD_eq_getElem?_getD, List.getElem?_eq_getElem hkw]; exact List.getElem_mem hkw)
      generalize cels[k] = x at *
      obtain ⟨D, hD⟩ : ∃ D : Nat, x.w = D := ⟨x.w.toNat, by rw [hwk] at hwok; omega⟩
      have hD2 : 1 ≤ D ∧ D ≤ 64 := by rw [hwk, hD] at hwok; omega
      have HCWD : Hid ((cw.getD k 0).toNat = D) := Hid.mk (by rw [hwk, hD]; rfl)
      have HCND : Hid (x.inp = false → (cn.getD k 0).toNat = D) := Hid.mk (fun e => by rw [hwn, hD, e]; rfl)
      rw [hD] at c0
      have HKW := Hid.mk hkw
      have HKN := Hid.mk hkn
      have m1 : (k : Int) < cw.length := by omega
      have m2 : (k : Int) < cn.length := by omega
      clear hcel hwk hwn hwok hD hkw hkn
      go_upto_region 5 with fail
      obtain ⟨Z, hZ⟩ : ∃ Z, Z = wr.alloc (.cells #[.int .i64 (D : Nat), .bool x.inp, .int .u64 (x.ini : Nat), .int .i64 x.lo, .int .i64 x.hi] 70) := ⟨_, rfl⟩
      rw [← hZ]
      have kZ : Keep wr Z := by rw [hZ]; exact (Keep.refl wr).alloc _
      have aZ : Arr Z wr.heap.size 70 [.int .i64 (D : Nat), .bool x.inp, .int .u64 (x.ini : Nat), .int .i64 x.lo, .int .i64 x.hi] := by rw [hZ]; exact Arr.new wr 70 _
      have HTZ := Hid.mk (ST.keep HT2.out.bs kZ)
      have HXZ := Hid.mk ((HT2.out.trans HTZ.out).mono (Nat.le_refl _))
      have z1 : Z.cell? ⟨wr.heap.size, 1, none⟩ = some (.bool x.inp) := aZ.cell 1
      generalize wr.heap.size = gZ at *
      clear hZ kZ aZ c0 c1 c2 c3 c4
      rcases Bool.eq_false_or_eq_true x.inp with hin | hin
      · rw [hin] at z1 HNX
        clear hin
        go_wp2_with fail
        go_roundg (gk - 1)
        case measure => have := HK.out; omega
        case rel => exact ⟨k + 1, gv2, G2, b2, by have := HK.out; omega, by go_num, rfl, HXZ.out.mono (by omega), HB2.out.congr (fun inp => by rw [HNX.out]; simp)⟩
      · have hDn := HCND.out hin
        rw [hin] at z1 HNX
        clear hin
        obtain ⟨uv, lu, u1, u2, u3, u4⟩ := (HXZ.out.frm HB.out HF.out).word HKW.out
        rw [HCWD.out] at u4
        obtain ⟨ua, uc, huv, -, -⟩ := u3.sh u4
        subst huv
        obtain ⟨yv, ly, y1, y2, y3, y4⟩ := (HXZ.out.frm HB.out HO.out).word HKN.out
        rw [hDn] at y4
        obtain ⟨ya, yc, hyv, -, -⟩ := y3.sh y4
        subst hyv
        have HU1 := Hid.mk u1
        have HU3 := Hid.mk u3
        have HU4 := Hid.mk u4
        have HY1 := Hid.mk y1
        have HY3 := Hid.mk y3
        have HY4 := Hid.mk y4
        have HS6 : Hid (∀ K Y gv' G', ST B X P Z gB cv gc gv2 G2 n K Y gv' G' → Y.cell? ⟨gB, 0, none⟩ = some (.pointer (some ⟨gc, 0, none⟩)) ∧ Y.cell? ⟨gF, oF, none⟩ = some (.slice (some ⟨gW, 0, none⟩) cw.length cw.length) ∧ Y.cell? ⟨gW, k, none⟩ = some (.slice ua D uc) ∧ Y.cell? ⟨gO, oG, none⟩ = some (.slice (some ⟨gV, 0, none⟩) cn.length cn.length) ∧ Y.cell? ⟨gV, k, none⟩ = some (.slice ya D yc)) := Hid.mk (fun K Y gv' G' s => by
          have fa := (HXZ.out.trans s).frm HB.out HF.out
          have a2 := fa.aw.cell k
          have a3 := (HXZ.out.frm HB.out HF.out).aw.cell k
          have fo := (HXZ.out.trans s).frm HB.out HO.out
          have o2 := fo.aw.cell k
          have o3 := (HXZ.out.frm HB.out HO.out).aw.cell k
          exact ⟨s.bs.cells.1, fa.cells.1, by rw [a2, ← a3]; exact HU1.out, fo.cells.1, by rw [o2, ← o3]; exact HY1.out⟩)
        have sd := HS6.out _ _ _ _ (ST.keep HTZ.out.bs (Keep.refl Z).drew)
        have H71 := Hid.mk (eq_k (HTZ.out.bs.keep (Keep.refl Z).drew) ((ST.keep HTZ.out.bs (Keep.refl Z).drew).wo HU3.out) HU4.out ((ST.keep HTZ.out.bs (Keep.refl Z).drew).wo HY3.out) HY4.out hD2.1 hD2.2 (by have := HSZ.out; omega))
        have H31 : Hid (∀ K Y gv' G' b F, ST B X P Z gB cv gc gv2 G2 n K Y gv' G' → K ≤ 150 → Bt G' b F → Calls Try.prog 31 #[.pointer (some ⟨gc, 0, none⟩), .int .i64 (b2 : Nat), .int .i64 (b : Nat)] Y fun e w' => RB B X P gB cv gc gv' Y G' n 1 (fun i => (decide ((S i).fault = (U i).fault) && allC cels (fun c j => c.inp || decide ((S i).at j = (U i).at j)) k) && F i) e w') := Hid.mk (fun K Y gv' G' b F s hK bt => and_k s.bs (s.bt HB2.out) bt (by have := HSZ.out; have := s.len; omega))
        clear u1 u2 u3 u4 y1 y2 y3 y4
        go_wp2_with fail
        go_region_held3 (fun w' => w'.cell? ⟨gB, 0, none⟩ = some (.pointer (some ⟨gc, 0, none⟩)) ∧ w'.cell? ⟨gF, oF, none⟩ = some (.slice (some ⟨gW, 0, none⟩) cw.length cw.length) ∧ w'.cell? ⟨gW, k, none⟩ = some (.slice ua D uc) ∧ w'.cell? ⟨gO, oG, none⟩ = some (.slice (some ⟨gV, 0, none⟩) cn.length cn.length) ∧ w'.cell? ⟨gV, k, none⟩ = some (.slice ya D yc)) (with_reducible first | exact sd | exact sd5 | exact sd6)
          (first
            | (go_at_call 71; refine H71.out.mono ?_; rintro e w5 ⟨gv5, G5, b5, rfl, b9, s9, x9, bt9⟩; have HT5 : Hid (ST B X P Z gB cv gc gv2 G2 n 65 w5 gv5 G5) := Hid.mk (((ST.keep HTZ.out.bs (Keep.refl Z).drew).trans ⟨b9, s9, x9⟩).mono (by omega)); have sd5 := HS6.out _ _ _ _ HT5.out; have C31 := Hid.mk (H31.out _ _ _ _ _ _ HT5.out (by omega) bt9); clear b9 s9 x9 bt9)
            | (go_at_call 31; refine C31.out.mono ?_; rintro e w6 ⟨gv6, G6, b6, rfl, b9, s9, x9, bt9⟩; have HT6 : Hid (ST B X P Z gB cv gc gv2 G2 n (65 + 1) w6 gv6 G6) := Hid.mk (HT5.out.trans ⟨b9, s9, x9⟩); have sd6 := HS6.out _ _ _ _ HT6.out; have HB6 := Hid.mk bt9; clear b9 s9 x9 bt9))
        rename_i hHd
        clear hHd sd sd5 sd6 z1
        go_wp2_with fail
        go_roundg (gk - 1)
        case measure => have := HK.out; omega
        case rel => exact ⟨k + 1, gv6, G6, b6, by have := HK.out; omega, by go_num, rfl, (HXZ.out.trans HT6.out).mono (by omega), HB6.out.congr (fun inp => by rw [HNX.out, Bool.and_assoc]; simp)⟩
    · have j1 : ¬ (k : Int) < cels.length := by omega
      obtain rfl : k = cels.length := by have := HK.out; omega
      go_wp2_with fail
      go_ret
      exact ⟨gv2, G2, b2, rfl, HT2.out.bs, HT2.out.st, HT2.out.ex, HB2.out⟩
end Go.Proofs.Qxb6500772a
