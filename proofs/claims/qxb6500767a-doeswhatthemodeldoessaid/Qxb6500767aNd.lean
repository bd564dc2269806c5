/- unionvfsm: truncate. -/
import Derived.Test.Qxb6500767aNc
namespace Go.Proofs.Qxb6500767a
open Go.RowKit Go.Qm
set_option linter.unusedVariables false
set_option linter.unusedSimpArgs false
attribute [local go_sem ↓] Go.wp_at_zero Go.wp_at_succ
set_option maxRecDepth 6000 in
set_option maxHeartbeats 8000000 in
theorem mTrunc_c {B gm gt k : Nat} {fp : Nat → Prop} {w : World} {s : Stt} {O : List Nat} {ov : Value} (o : OpV) (h : MW B fp w gm gt s O ov) (si : SI k s.u s.hs s.T) (hk : k ≤ 70000) (hp : o.path.length ≤ 100000) (hp2 : o.path2.length ≤ 100000) (hdt : o.data.length ≤ 100000) (md : Md.SPM s.T) :
    Calls Try.prog 64 #[.pointer (some ⟨gm, 0, none⟩), .agg (opC o).toArray] w fun e w' => MP B fp w gm gt ov ⟨(trpT s.T o.path o.off).2, 0, [], sta0, []⟩ ⟨s.u, s.hs, (trpT s.T o.path o.off).1⟩ e w' := by
  have HH := Hid.mk h
  obtain ⟨ok, oh, ofl, omo, on, oo, owh, op, op2, od⟩ := o
  simp only at hp hp2 hdt ⊢
  obtain ⟨R, hR⟩ : ∃ R, R = trpT s.T op oo := ⟨_, rfl⟩
  rw [← hR]
  unfold trpT at hR
  have VS := fun W => sizeOK_c oo W
  have lim := si.lim (by omega)
  have HWC := Hid.mk (fun W (kk : Keep w W) => walk_c gt s.T true op W (h.keep kk).tree.tr lim.ok hp)
  have hi := si.t.lt (path_live si.t op true).1
  have HKC := Hid.mk (fun W (kk : Keep w W) => kindOf_c (h.keep kk) hi)
  have hm := md (pathF s.T op true).1
  have HTR := Hid.mk (fun W (kk : Keep w W) => (h.keep kk).tree.tr)
  have HRC := Hid.mk (fun W (kk : Keep w W) (z : Nat) (hz : z ≤ 2 ^ 22) => resize_c B gt (pathF s.T op true).1 z fp s.T W (h.keep kk).tree hi (by have := si.t.len; omega) (by have := si.t.ub; omega) hz (by have := si.t.data (pathF s.T op true).1; omega))
  generalize pathF s.T op true = PF at *
  obtain ⟨nd, er⟩ := PF
  simp only at hR HWC HKC HRC hi hm
  have hmd := hm.mode
  have hmR := mdR hmd.1 hmd.2
  clear lim si md hm
  cases hv : vsB oo with
  | false =>
    rw [if_pos hv] at hR
    have HV := Hid.mk hR
    rw [hv] at VS
    clear hR hv h
    go_enter Try.func64, Try.ntmps64
    go_upto_region 1 with fail
    obtain ⟨w1, hw1⟩ : ∃ w1, w1 = (w.alloc (.cells (opC ⟨ok, oh, ofl, omo, on, oo, owh, op, op2, od⟩).toArray 37)).alloc (.cells #[.int .i64 0, .int .i64 0, str [], .int .i64 0, .int .i64 0, .int .i64 0, .int .i64 0, .int .i64 0, .slice none 0 0] 34) := ⟨_, rfl⟩
    rw [← hw1]
    have TWO : Two w w1 ⟨ok, oh, ofl, omo, on, oo, owh, op, op2, od⟩ := by rw [hw1]; exact Two.mk' w _
    obtain ⟨gA, hgA⟩ : ∃ g, g = w.heap.size := ⟨_, rfl⟩
    obtain ⟨gB, hgB⟩ : ∃ g, g = w.heap.size + 1 := ⟨_, rfl⟩
    have HGB : Hid (w.heap.size ≤ gB ∧ gB < w1.heap.size) := Hid.mk ⟨by omega, by rw [TWO.sz]; omega⟩
    have HAB : Hid (Arr w1 gB 34 zeroC) := Hid.mk (by rw [hgB]; exact TWO.b)
    have HAA : Hid (Arr w1 gA 37 (opC ⟨ok, oh, ofl, omo, on, oo, owh, op, op2, od⟩)) := Hid.mk (by rw [hgA]; exact TWO.a)
    have K1 := TWO.k
    have HK1 := Hid.mk K1
    have HNF : Hid (¬ fpM fp gm ov gA ∧ ¬ fpM fp gm ov gB ∧ gA ≠ gB ∧ gm ≠ gB ∧ gm ≠ gA) := Hid.mk ⟨fun a => by have := HH.out.flt a; omega, fun a => by have := HH.out.flt a; omega, by omega, fun e => by have := HH.out.flt (Or.inr (Or.inl rfl) : fpM fp gm ov gm); omega, fun e => by have := HH.out.flt (Or.inr (Or.inl rfl) : fpM fp gm ov gm); omega⟩
    rw [← hgB, ← hgA]
    clear hw1 TWO hgA hgB
    have a0 := HAA.out.cell 0
    have a1 := HAA.out.cell 1
    have a2 := HAA.out.cell 2
    have a3 := HAA.out.cell 3
    have a4 := HAA.out.cell 4
    have a5 := HAA.out.cell 5
    have a6 := HAA.out.cell 6
    have a7 := HAA.out.cell 7
    have a8 := HAA.out.cell 8
    have a9 := HAA.out.cell 9
    simp only [opC, List.getElem?_cons_zero, List.getElem?_cons_succ] at a0 a1 a2 a3 a4 a5 a6 a7 a8 a9
    obtain ⟨x0, x1⟩ := (HH.out.keep K1).cells
    go_wp2_with fail
    refine (VS _).mono ?_
    rintro e y1 ⟨rfl, rfl⟩
    have HQ1 := Hid.mk (Keep.refl y1)
    go_wp2_with fail
    refine (refuse_c 2 _).mono ?_
    rintro e y2 ⟨rfl, q2⟩
    obtain ⟨b0, b1, b2, b3, b4, b5, b6, b7, b8, z0, z1, z2, z3, z4, z5, z6, z7, z8⟩ := z9 (HAB.out.keep (HQ1.out.trans q2))
    have HE := Hid.mk (MP.fin (a := ⟨2, 0, [], sta0, []⟩) (v := (.slice none 0 0)) HH.out HK1.out (HH.out.keep (HK1.out.trans (HQ1.out.trans q2))) (Stp.keep (HQ1.out.trans q2)) HGB.out (OwnS.nil _ _ _ _ _) (fr9 (.int .i64 2) (.int .i64 0) (str []) (.int .i64 0) (.int .i64 0) (.int .i64 0) (.int .i64 0) (.int .i64 0) (.slice none 0 0)))
    have HAZ := Hid.mk (arr9 (HAB.out.keep (HQ1.out.trans q2)) (.int .i64 2) (.int .i64 0) (str []) (.int .i64 0) (.int .i64 0) (.int .i64 0) (.int .i64 0) (.int .i64 0) (.slice none 0 0))
    clear q2
    go_wp2_with fail
    refine bodyPost_ret (v := .agg (ansC ⟨2, 0, [], sta0, []⟩ (.slice none 0 0)).toArray) (results_cell_row1 rfl _ _ gB 34 _ (0, 0) _ rfl HAZ.out Try.underlying34 rfl s34) rfl ?_
    rw [HV.out]
    exact HE.out
  | true =>
    rw [if_neg (by rw [hv]; decide)] at hR
    have hz : 0 ≤ oo ∧ oo ≤ 1048576 := by unfold vsB at hv; simpa using hv
    rw [hv] at VS
    clear hv h
    go_enter Try.func64, Try.ntmps64
    go_upto_region 1 with fail
    obtain ⟨w1, hw1⟩ : ∃ w1, w1 = (w.alloc (.cells (opC ⟨ok, oh, ofl, omo, on, oo, owh, op, op2, od⟩).toArray 37)).alloc (.cells #[.int .i64 0, .int .i64 0, str [], .int .i64 0, .int .i64 0, .int .i64 0, .int .i64 0, .int .i64 0, .slice none 0 0] 34) := ⟨_, rfl⟩
    rw [← hw1]
    have TWO : Two w w1 ⟨ok, oh, ofl, omo, on, oo, owh, op, op2, od⟩ := by rw [hw1]; exact Two.mk' w _
    obtain ⟨gA, hgA⟩ : ∃ g, g = w.heap.size := ⟨_, rfl⟩
    obtain ⟨gB, hgB⟩ : ∃ g, g = w.heap.size + 1 := ⟨_, rfl⟩
    have HGB : Hid (w.heap.size ≤ gB ∧ gB < w1.heap.size) := Hid.mk ⟨by omega, by rw [TWO.sz]; omega⟩
    have HAB : Hid (Arr w1 gB 34 zeroC) := Hid.mk (by rw [hgB]; exact TWO.b)
    have HAA : Hid (Arr w1 gA 37 (opC ⟨ok, oh, ofl, omo, on, oo, owh, op, op2, od⟩)) := Hid.mk (by rw [hgA]; exact TWO.a)
    have K1 := TWO.k
    have HK1 := Hid.mk K1
    have HNF : Hid (¬ fpM fp gm ov gA ∧ ¬ fpM fp gm ov gB ∧ gA ≠ gB ∧ gm ≠ gB ∧ gm ≠ gA) := Hid.mk ⟨fun a => by have := HH.out.flt a; omega, fun a => by have := HH.out.flt a; omega, by omega, fun e => by have := HH.out.flt (Or.inr (Or.inl rfl) : fpM fp gm ov gm); omega, fun e => by have := HH.out.flt (Or.inr (Or.inl rfl) : fpM fp gm ov gm); omega⟩
    rw [← hgB, ← hgA]
    clear hw1 TWO hgA hgB
    have a0 := HAA.out.cell 0
    have a1 := HAA.out.cell 1
    have a2 := HAA.out.cell 2
    have a3 := HAA.out.cell 3
    have a4 := HAA.out.cell 4
    have a5 := HAA.out.cell 5
    have a6 := HAA.out.cell 6
    have a7 := HAA.out.cell 7
    have a8 := HAA.out.cell 8
    have a9 := HAA.out.cell 9
    simp only [opC, List.getElem?_cons_zero, List.getElem?_cons_succ] at a0 a1 a2 a3 a4 a5 a6 a7 a8 a9
    obtain ⟨x0, x1⟩ := (HH.out.keep K1).cells
    go_wp2_with fail
    refine (VS _).mono ?_
    rintro e y1 ⟨rfl, hy1⟩
    subst hy1
    clear VS
    go_upto_region 3 with fail
    go_cut [5, 6] from 12 to 21 (fun v5 v6 wx => v5 = .int .i64 nd ∧ v6 = .int .i64 er ∧ Keep y1 wx)
    case first =>
      have HSK : Hid (∀ W, Keep y1 W → W.cell? ⟨gm, 0, none⟩ = some (.pointer (some ⟨gt, 0, none⟩)) ∧ W.cell? ⟨gA, 7, none⟩ = some (str op)) := Hid.mk (fun W kk => ⟨kk.cell x0, kk.cell a7⟩)
      go_region_held3 (fun W : World => W.cell? ⟨gm, 0, none⟩ = some (.pointer (some ⟨gt, 0, none⟩)) ∧ W.cell? ⟨gA, 7, none⟩ = some (str op))
        (with_reducible first | assumption | exact ⟨x0, a7⟩ | exact HSK.out _ (Keep.refl y1).drew | exact HSK.out _ Q2)
        ((go_at_call 63; refine (HWC.out _ (HK1.out.trans (Keep.refl y1).drew)).mono ?_; rintro x y ⟨rfl, q2⟩; have Q2 := (Keep.refl y1).drew.trans q2))
      go_wp2_with fail
      go_meet
      case rel => exact ⟨rfl, rfl, Q2⟩
    case rest =>
      obtain ⟨rfl, rfl, q2⟩ := hcut
      obtain ⟨y2, hy2⟩ : ∃ y2, y2 = wc := ⟨_, rfl⟩
      subst hy2
      have HQ2 := Hid.mk q2
      replace x0 := q2.cell x0
      replace a5 := q2.cell a5
      clear x1 a0 a1 a2 a3 a4 a6 a7 a8 a9 q2
      by_cases he : er = 0
      · rw [if_neg (by simpa using he)] at hR
        subst he
        by_cases hk2 : (at' s.T nd).kind = 2
        · rw [if_pos hk2] at hR
          have HV := Hid.mk hR
          clear hR
          go_wp2_with fail
          refine (HKC.out _ (HK1.out.trans HQ2.out)).mono ?_
          rintro e y3 ⟨rfl, hy3⟩
          subst hy3
          rw [hk2]
          go_wp2_with fail
          refine (refuse_c 8 _).mono ?_
          rintro e y2 ⟨rfl, q2⟩
          obtain ⟨b0, b1, b2, b3, b4, b5, b6, b7, b8, z0, z1, z2, z3, z4, z5, z6, z7, z8⟩ := z9 (HAB.out.keep (HQ2.out.trans q2))
          have HE := Hid.mk (MP.fin (a := ⟨8, 0, [], sta0, []⟩) (v := (.slice none 0 0)) HH.out HK1.out (HH.out.keep (HK1.out.trans (HQ2.out.trans q2))) (Stp.keep (HQ2.out.trans q2)) HGB.out (OwnS.nil _ _ _ _ _) (fr9 (.int .i64 8) (.int .i64 0) (str []) (.int .i64 0) (.int .i64 0) (.int .i64 0) (.int .i64 0) (.int .i64 0) (.slice none 0 0)))
          have HAZ := Hid.mk (arr9 (HAB.out.keep (HQ2.out.trans q2)) (.int .i64 8) (.int .i64 0) (str []) (.int .i64 0) (.int .i64 0) (.int .i64 0) (.int .i64 0) (.int .i64 0) (.slice none 0 0))
          clear q2
          go_wp2_with fail
          refine bodyPost_ret (v := .agg (ansC ⟨8, 0, [], sta0, []⟩ (.slice none 0 0)).toArray) (results_cell_row1 rfl _ _ gB 34 _ (0, 0) _ rfl HAZ.out Try.underlying34 rfl s34) rfl ?_
          rw [HV.out]
          exact HE.out
        · rw [if_neg hk2] at hR
          have n2 : (((at' s.T nd).kind : Int) == 2) = false := by simp; omega
          have HC := Hid.mk (fun W => has_c (at' s.T nd).mode 128 (by omega) (by have := hmd.1; omega) (by have := hmd.2; omega) W)
          obtain ⟨bn, cap, c0, t1, t2, nodes⟩ := HTR.out _ (HK1.out.trans HQ2.out)
          obtain ⟨dv, ev, -, m1, -⟩ := nodes nd hi
          unfold maxLen at t2
          have i1 : (nd : Int) < s.T.length := by omega
          have i2 : (0 : Int) ≤ nd := by omega
          have hb : hsB (at' s.T nd).mode 128 = bt (at' s.T nd).mode 128 := hmR.2
          clear nodes hk2 hmR hmd
          go_wp2_with fail
          refine (HKC.out _ (HK1.out.trans HQ2.out)).mono ?_
          rintro e y3 ⟨rfl, hy3⟩
          subst hy3
          clear HKC
          go_wp2_with fail
          refine (HC.out _).mono ?_
          rintro e y4 ⟨rfl, hy4⟩
          subst hy4
          clear HC
          rw [hb]
          unfold bt
          cases hn : nob (at' s.T nd).mode 128 with
          | true =>
            rw [if_pos hn] at hR
            have HV := Hid.mk hR
            clear hR hn hb
            go_wp2_with fail
            refine (refuse_c 11 _).mono ?_
            rintro e y2 ⟨rfl, q2⟩
            obtain ⟨b0, b1, b2, b3, b4, b5, b6, b7, b8, z0, z1, z2, z3, z4, z5, z6, z7, z8⟩ := z9 (HAB.out.keep (HQ2.out.trans q2))
            have HE := Hid.mk (MP.fin (a := ⟨11, 0, [], sta0, []⟩) (v := (.slice none 0 0)) HH.out HK1.out (HH.out.keep (HK1.out.trans (HQ2.out.trans q2))) (Stp.keep (HQ2.out.trans q2)) HGB.out (OwnS.nil _ _ _ _ _) (fr9 (.int .i64 11) (.int .i64 0) (str []) (.int .i64 0) (.int .i64 0) (.int .i64 0) (.int .i64 0) (.int .i64 0) (.slice none 0 0)))
            have HAZ := Hid.mk (arr9 (HAB.out.keep (HQ2.out.trans q2)) (.int .i64 11) (.int .i64 0) (str []) (.int .i64 0) (.int .i64 0) (.int .i64 0) (.int .i64 0) (.int .i64 0) (.slice none 0 0))
            clear q2
            go_wp2_with fail
            refine bodyPost_ret (v := .agg (ansC ⟨11, 0, [], sta0, []⟩ (.slice none 0 0)).toArray) (results_cell_row1 rfl _ _ gB 34 _ (0, 0) _ rfl HAZ.out Try.underlying34 rfl s34) rfl ?_
            rw [HV.out]
            exact HE.out
          | false =>
            rw [if_neg (by rw [hn]; decide)] at hR
            obtain ⟨z, rfl⟩ : ∃ z : Nat, oo = z := ⟨oo.toNat, by omega⟩
            rw [Int.toNat_natCast] at hR
            have HC2 := Hid.mk (fun W (kk : Keep w W) => HRC.out W kk z (by omega))
            generalize resT s.T nd z = RS at *
            obtain ⟨T', rr⟩ := RS
            simp only at HC2
            have HV := Hid.mk hR
            clear hR hn hb HRC
            go_upto_region 10 with fail
            have HS : Hid (∀ (W : World) (i : Nat) (v : Value), (W.cell? ⟨gm, 0, none⟩ = some (.pointer (some ⟨gt, 0, none⟩)) ∧ W.cell? ⟨gA, 5, none⟩ = some (.int .i64 (z : Nat))) → ((fun W : World => W.cell? ⟨gm, 0, none⟩ = some (.pointer (some ⟨gt, 0, none⟩)) ∧ W.cell? ⟨gA, 5, none⟩ = some (.int .i64 (z : Nat))) (W.setCell ⟨gB, i, none⟩ v))) := Hid.mk (fun W i v hc => ⟨(cell_other HNF.out.2.2.2.1 v).trans hc.1, (cell_other HNF.out.2.2.1 v).trans hc.2⟩)
            have HSK : Hid (∀ W : World, Keep y4 W → (W.cell? ⟨gm, 0, none⟩ = some (.pointer (some ⟨gt, 0, none⟩)) ∧ W.cell? ⟨gA, 5, none⟩ = some (.int .i64 (z : Nat)))) := Hid.mk (fun W kk => ⟨kk.cell x0, kk.cell a5⟩)
            have HAAW := Hid.mk (HAA.out.keep HQ2.out)
            have HABW := Hid.mk (HAB.out.keep HQ2.out)
            have HMW := Hid.mk (HH.out.keep (HK1.out.trans HQ2.out))
            have HKW := Hid.mk HQ2.out
            go_region_held3 (fun W : World => W.cell? ⟨gm, 0, none⟩ = some (.pointer (some ⟨gt, 0, none⟩)) ∧ W.cell? ⟨gA, 5, none⟩ = some (.int .i64 (z : Nat)))
              (with_reducible first | assumption | exact ⟨x0, a5⟩ | exact HSK.out _ (Keep.refl y4).drew | exact S2 | exact S3 | exact HS.out _ _ _ S3 | exact HS.out _ _ _ (HS.out _ _ _ (HS.out _ _ _ (HS.out _ _ _ (HS.out _ _ _ (HS.out _ _ _ (HS.out _ _ _ (HS.out _ _ _ (HS.out _ _ _ S3)))))))))
              (first
                | (go_at_call 58; refine (HC2.out _ ((HK1.out.trans HQ2.out).trans (Keep.refl y4).drew)).mono ?_; rintro x y ⟨fp1, rfl, t1, s1⟩
                   obtain ⟨M1, s2⟩ := (HMW.out.keep (Keep.refl y4).drew).step t1 s1
                   have AA1 := s2.1.arr HNF.out.1 (HAAW.out.keep (Keep.refl y4).drew)
                   have AB1 := s2.1.arr HNF.out.2.1 (HABW.out.keep (Keep.refl y4).drew)
                   have S2 : (fun W : World => W.cell? ⟨gm, 0, none⟩ = some (.pointer (some ⟨gt, 0, none⟩)) ∧ W.cell? ⟨gA, 5, none⟩ = some (.int .i64 (z : Nat))) y := ⟨M1.cells.1, AA1.cell 5⟩
                   have HM1 := Hid.mk M1
                   have HS1 := Hid.mk ((Stp.keep (HKW.out.trans (Keep.refl y4).drew)).trans s2)
                   have HAB1 := Hid.mk AB1
                   clear M1 s1 s2 t1 AA1 AB1)
                | (go_at_call 56; refine (refuse_c rr _).mono ?_; rintro x y2 ⟨rfl, q2⟩
                   have S3 : (fun W : World => W.cell? ⟨gm, 0, none⟩ = some (.pointer (some ⟨gt, 0, none⟩)) ∧ W.cell? ⟨gA, 5, none⟩ = some (.int .i64 (z : Nat))) y2 := ⟨q2.cell S2.1, q2.cell S2.2⟩
                   obtain ⟨b0, b1, b2, b3, b4, b5, b6, b7, b8, z0, z1, z2, z3, z4, z5, z6, z7, z8⟩ := z9 (HAB1.out.keep q2)
                   have HE := Hid.mk (MP.fin (a := ⟨rr, 0, [], sta0, []⟩) (v := .slice none 0 0) HH.out HK1.out (HM1.out.keep q2) (HS1.out.trans (Stp.keep q2)) HGB.out (OwnS.nil _ _ _ _ _) (fr9 (.int .i64 rr) (.int .i64 0) (str []) (.int .i64 0) (.int .i64 0) (.int .i64 0) (.int .i64 0) (.int .i64 0) (.slice none 0 0)))
                   have HAZ := Hid.mk (arr9 (HAB1.out.keep q2) (.int .i64 rr) (.int .i64 0) (str []) (.int .i64 0) (.int .i64 0) (.int .i64 0) (.int .i64 0) (.int .i64 0) (.slice none 0 0))
                   clear q2))
            go_wp2_with fail
            refine bodyPost_ret (v := .agg (ansC ⟨rr, 0, [], sta0, []⟩ (.slice none 0 0)).toArray) (results_cell_row1 rfl _ _ gB 34 _ (0, 0) _ rfl HAZ.out Try.underlying34 rfl s34) rfl ?_
            rw [HV.out]
            exact HE.out
      · rw [if_pos he] at hR
        have HV := Hid.mk hR
        have n1 : (er != 0) = true := by simpa using he
        clear hR he
        go_wp2_with fail
        refine (refuse_c er _).mono ?_
        rintro e y2 ⟨rfl, q2⟩
        obtain ⟨b0, b1, b2, b3, b4, b5, b6, b7, b8, z0, z1, z2, z3, z4, z5, z6, z7, z8⟩ := z9 (HAB.out.keep (HQ2.out.trans q2))
        have HE := Hid.mk (MP.fin (a := ⟨er, 0, [], sta0, []⟩) (v := (.slice none 0 0)) HH.out HK1.out (HH.out.keep (HK1.out.trans (HQ2.out.trans q2))) (Stp.keep (HQ2.out.trans q2)) HGB.out (OwnS.nil _ _ _ _ _) (fr9 (.int .i64 er) (.int .i64 0) (str []) (.int .i64 0) (.int .i64 0) (.int .i64 0) (.int .i64 0) (.int .i64 0) (.slice none 0 0)))
        have HAZ := Hid.mk (arr9 (HAB.out.keep (HQ2.out.trans q2)) (.int .i64 er) (.int .i64 0) (str []) (.int .i64 0) (.int .i64 0) (.int .i64 0) (.int .i64 0) (.int .i64 0) (.slice none 0 0))
        clear q2
        go_wp2_with fail
        refine bodyPost_ret (v := .agg (ansC ⟨er, 0, [], sta0, []⟩ (.slice none 0 0)).toArray) (results_cell_row1 rfl _ _ gB 34 _ (0, 0) _ rfl HAZ.out Try.underlying34 rfl s34) rfl ?_
        rw [HV.out]
        exact HE.out
end Go.Proofs.Qxb6500767a
