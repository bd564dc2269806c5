/- modesm.CMAC: the definition's walk. -/
import Derived.Test.Qxb6500771aGreatEb
import Derived.Deep.CutRange
import Derived.Deep.MidRow
namespace Go.Proofs.Qxb6500771aGreat
open Go.RowKit Go.Qm
set_option linter.unusedVariables false
set_option linter.unusedSimpArgs false
attribute [local go_sem ↓] Go.wp_at_zero Go.wp_at_succ

/-- The chaining value after j blocks of m. -/
def Z16 : List UInt8 := List.replicate 16 0
theorem Z16_length : Z16.length = 16 := by simp [Z16]
def chn (f : List UInt8 → List UInt8) (m : List UInt8) : Nat → List UInt8
  | 0 => Z16
  | j + 1 => f (xorl (chn f m j) ((m.drop (16 * j)).take 16))
theorem chn_length {f : List UInt8 → List UInt8} (hf : ∀ l, l.length = 16 → (f l).length = 16) (m : List UInt8) : ∀ j, (chn f m j).length = 16
  | 0 => Z16_length
  | j + 1 => hf _ (by rw [xorl_length]; exact chn_length hf m j)
def nbl (m : List UInt8) : Nat := if m.length = 0 then 0 else (m.length + 15) / 16 - 1
def fill (r : List UInt8) : List UInt8 := r ++ [128] ++ List.replicate (15 - r.length) 0
def lastB (K1 K2 m : List UInt8) : List UInt8 :=
  if m.length ≠ 0 ∧ m.length % 16 = 0 then xorl (m.drop (16 * nbl m)) K1 else xorl (fill (m.drop (16 * nbl m))) K2
def cmac (f : List UInt8 → List UInt8) (m : List UInt8) : List UInt8 :=
  f (xorl (lastB (dbl (f Z16)) (dbl (dbl (f Z16))) m) (chn f m (nbl m)))
theorem fill_length (r : List UInt8) (h : r.length ≤ 15) : (fill r).length = 16 := by simp [fill]; omega
theorem nbl_le (m : List UInt8) : 16 * nbl m ≤ m.length := by
  unfold nbl
  split <;> omega
set_option maxRecDepth 2000 in
set_option maxHeartbeats 4000000 in
theorem mcmac_c (al : Int) (ka : Option Addr) (kn kc : Nat) (key : List UInt8) (f : List UInt8 → List UInt8) (m : List UInt8) (mv : Value) (w : World) (hE : Enc al (.slice ka kn kc) key f) (hk : Bs w (.slice ka kn kc) key) (hm : Bs w mv m) (hml : m.length ≤ 4000000) :
    Calls Tryz.prog 84 #[.agg #[.int .i64 al, .slice ka kn kc], mv] w fun e w' => ∃ v', e = .returned v' ∧ Own w.heap.size 5 w' v' ((cmac f m).map cb) ∧ Keep w w' := by
  obtain ⟨hfl, hE⟩ := hE
  obtain ⟨ma, mc, rfl, hmc, hmm, -⟩ := hm.form
  unfold maxLen at hmm
  have HZl := hfl Z16 Z16_length
  have B0 := Arr.new w 123 [.int .i64 al, .slice ka kn kc]
  have K0 := (Keep.refl w).alloc (.cells #[.int .i64 al, .slice ka kn kc] 123)
  have R16 : ∀ W, Calls Tryz.prog 27 #[.int .u8 0, .int .i64 16] W fun e w' => ∃ v', e = .returned v' ∧ Own W.heap.size 5 w' v' (Z16.map cb) ∧ Keep W w' := fun W => repeat_c 0 16 W (by omega)
  have HCM : Hid (cmac f m = f (xorl (lastB (dbl (f Z16)) (dbl (dbl (f Z16))) m) (chn f m (nbl m)))) := Hid.mk rfl
  obtain ⟨F0, hF0⟩ : ∃ F0, F0 = f Z16 := ⟨_, rfl⟩
  rw [← hF0] at HZl HCM
  have HF0 := Hid.mk hF0
  clear hF0
  have HZL := Hid.mk HZl
  clear HZl
  obtain ⟨ml, hmlen⟩ : ∃ ml, ml = m.length := ⟨_, rfl⟩
  rw [← hmlen] at hml hmc hm ⊢
  have HML := Hid.mk hmlen
  clear hmlen
  go_enter Tryz.func84, Tryz.ntmps84
  go_wp2_with fail
  generalize w.alloc (.cells #[.int .i64 al, .slice ka kn kc] 123) = w1 at *
  have b0 := B0.cell 0
  have b1 := B0.cell 1
  simp only [List.getElem?_cons_zero, List.getElem?_cons_succ] at b0 b1
  have hk1 := hk.keep K0
  have hm1 := hm.keep K0
  clear hk hm
  go_cut [5] from 14 to 73 (fun v5 wx => Own w.heap.size 5 wx v5 ((dbl F0).map cb) ∧ Keep w1 wx)
  case first => as_aux_lemma =>
    go_region_held3 (fun W => W.cell? ⟨w.heap.size, 0, none⟩ = some (.int .i64 al) ∧ W.cell? ⟨w.heap.size, 1, none⟩ = some (.slice ka kn kc))
      (first | assumption | exact ⟨Q3.cell b0, Q3.cell b1⟩ | exact ⟨Q2.cell b0, Q2.cell b1⟩ | exact ⟨Q1.cell b0, Q1.cell b1⟩ | exact ⟨b0, b1⟩)
      (first
      | (go_at_call 27; refine (R16 _).mono ?_; rintro e y1 ⟨u1, rfl, o1, q1⟩; have Q1 : Keep w1 y1 := (Keep.refl w1).drew.trans q1)
      | (go_at_call 98; refine (hE _ _ Z16 (hk1.keep Q1) o1.bs Z16_length).mono ?_; rintro e y2 ⟨u2, rfl, o2, q2⟩; have Q2 : Keep w1 y2 := Q1.trans q2; rw [← HF0.out] at o2)
      | (go_at_call 97; refine (mDouble_c _ F0 _ o2.bs HZL.out).mono ?_; rintro e y3 ⟨u3, rfl, o3, q3⟩; have Q3 : Keep w1 y3 := Q2.trans q3))
    go_wp2_with fail
    go_meet
    case rel => exact ⟨o3.mono (K0.trans Q2).size, Q3⟩
  case rest => as_aux_lemma =>
    obtain ⟨o5, k5⟩ := hcut
    go_wp2_with fail
    refine (mDouble_c _ (dbl F0) _ o5.bs (dbl_length _)).mono ?_
    rintro e w6 ⟨v6, rfl, o6, k6⟩
    have O5 := o5.keep k6
    have O6 := o6.mono (K0.trans k5).size
    have K6 := k5.trans k6
    have hm6 := hm1.keep K6
    clear o5 o6 hm1 R16
    obtain ⟨l15, hl15⟩ : ∃ x : Nat, x = ml + 15 := ⟨_, rfl⟩
    obtain ⟨nq, hnq⟩ : ∃ x : Nat, x = l15 / 16 := ⟨_, rfl⟩
    obtain ⟨r, hr⟩ : ∃ x : Nat, x = ml % 16 := ⟨_, rfl⟩
    obtain ⟨j, hj⟩ : ∃ x : Nat, x = nbl m := ⟨_, rfl⟩
    obtain ⟨wh, hwh⟩ : ∃ x : Bool, x = decide (m.length ≠ 0 ∧ m.length % 16 = 0) := ⟨_, rfl⟩
    have e1 : IntKind.i64.wrap ((ml : Int) + 15) = (l15 : Int) := by rw [IntKind.wrap_i64] <;> omega
    have e2 : (l15 : Int) / 16 = (nq : Int) := by omega
    have e3 : IntKind.i64.wrap (nq : Int) = (nq : Int) := by rw [IntKind.wrap_i64] <;> omega
    have e5 : (ml : Int).tmod 16 = (r : Int) := by rw [hr]; exact (Int.ofNat_tmod ml 16).symm
    have e6 : (ml : Int) % 16 = (r : Int) := by omega
    have HJQ : Hid (j + 1 = if ml = 0 then 1 else nq) := Hid.mk (by
      rw [hj]; unfold nbl; rw [← HML.out]
      by_cases h0 : ml = 0
      · rw [if_pos h0, if_pos h0]
      · rw [if_neg h0, if_neg h0]; omega)
    have HWH : Hid (wh = decide (ml ≠ 0 ∧ r = 0)) := Hid.mk (by rw [hwh, ← HML.out, hr])
    have HJ := Hid.mk hj
    have HWD := Hid.mk hwh
    have HRR := Hid.mk hr
    have hq1 : Hid (ml = 0 ↔ nq = 0) := Hid.mk (by omega)
    have HG0 : Hid (ml = 0 → ((nq : Int) == 0) = true) := Hid.mk (by intro h; simp; omega)
    have HG1 : Hid (¬ ml = 0 → ((nq : Int) == 0) = false) := Hid.mk (by intro h; simp; omega)
    have e4 : wrap64 (nq : Int) = (nq : Int) := IntWalk.wrap64_in _ (by omega)
    clear hl15 hnq hr hj hwh
    go_upto_if 25 with fail
    go_cut [7, 8] from 14 to 73 (fun nv bv wx => nv = .int .i64 (j + 1 : Nat) ∧ bv = .bool wh ∧ wx = w6)
    case first => as_aux_lemma =>
      clear e1 e2 e3 e4
      by_cases h0 : ml = 0
      · have g1 := HG0.out h0
        have H0 := Hid.mk h0
        clear h0 e5 e6
        go_wp2_with fail
        go_meet
        case rel =>
          rw [HJQ.out, if_pos H0.out, HWH.out]
          exact ⟨rfl, by simp [H0.out], rfl⟩
      · have g1 := HG1.out h0
        by_cases hr0 : r = 0
        · have g2 : ((r : Int) != 0) = false := by simp [hr0]
          have HR0 := Hid.mk hr0
          clear hr0
          go_wp2_with fail
          go_meet
          case rel =>
            rw [HJQ.out, if_neg h0, HWH.out]
            exact ⟨rfl, by simp [h0, HR0.out], rfl⟩
        · have g2 : ((r : Int) != 0) = true := by simp [hr0]
          go_wp2_with fail
          go_meet
          case rel =>
            rw [HJQ.out, if_neg h0, HWH.out]
            exact ⟨rfl, by simp [hr0], rfl⟩
    case rest => as_aux_lemma =>
      obtain ⟨rfl, rfl, rfl⟩ := hcut
      clear e1 e2 e3 e4 e5 e6 HG0 HG1
      obtain ⟨q, hq⟩ : ∃ x : Nat, x = 16 * j := ⟨_, rfl⟩
      have hqm : q ≤ ml := by have := nbl_le m; rw [hq, HJ.out, HML.out]; exact this
      have y1 : IntKind.i64.wrap (((j + 1 : Nat) : Int) - 1) = (j : Int) := by rw [IntKind.wrap_i64] <;> omega
      have y1' : IntKind.i64.wrap (j : Int) = (j : Int) := by rw [IntKind.wrap_i64] <;> omega
      have y2 : IntKind.i64.wrap (16 * (j : Int)) = (q : Int) := by rw [IntKind.wrap_i64] <;> omega
      have y3 : (q : Int) ≤ ml := by omega
      have y4 : (q : Int) ≤ mc := by omega
      have y5 : (0 : Int) ≤ q := by omega
      have HQ := Hid.mk hq
      clear hq hq1
      go_upto_region 10 with fail
      go_cut [9] from 14 to 73 (fun rv wx => ∃ ra rc, rv = .slice ra (ml - q : Nat) rc ∧ Bs wx (.slice ra (ml - q : Nat) rc) (m.drop q) ∧ wx = wc)
      case first => as_aux_lemma =>
        by_cases hpk : mc = q
        · have HMQ : Hid (ml = q) := Hid.mk (by omega)
          subst hpk
          go_wp2_with fail
          go_meet
          case rel =>
            refine ⟨ma, mc - mc, ?_, ?_, rfl⟩
            · have := HMQ.out
              first | rfl | (simp; omega)
            · have hd : m.drop mc = [] := List.drop_of_length_le (by have := HML.out; have := HMQ.out; omega)
              rw [hd, HMQ.out, Nat.sub_self]
              exact Bs.nil _ _ (by simp [maxLen])
        · have HP := hm6.part (i := q) (j := ml) hqm (Nat.le_refl _) (ma.map (·.add q)) (fun _ => rfl)
          have htk : (m.drop q).take (ml - q) = m.drop q := List.take_of_length_le (by rw [List.length_drop]; have := HML.out; omega)
          rw [htk] at HP
          have HPH := Hid.mk HP
          clear HP htk
          go_wp2_with fail
          go_meet
          case rel => exact ⟨_, _, rfl, HPH.out, rfl⟩
      case rest => as_aux_lemma =>
        obtain ⟨ra, rc, rfl, hrb, rfl⟩ := hcut
        have HRL : Hid ((m.drop q).length = ml - q) := Hid.mk (by rw [List.length_drop, HML.out])
        have HD : Hid (lastB (dbl F0) (dbl (dbl F0)) m = if wh = true then xorl (m.drop q) (dbl F0) else xorl (fill (m.drop q)) (dbl (dbl F0))) := Hid.mk (by
          unfold lastB
          rw [HWD.out, HQ.out, HJ.out]
          by_cases hc : m.length ≠ 0 ∧ m.length % 16 = 0
          · rw [if_pos hc, if_pos (by simpa using hc)]
          · rw [if_neg hc, if_neg (by simpa using hc)])
        obtain ⟨rl, hrl⟩ : ∃ x : Nat, x = ml - q := ⟨_, rfl⟩
        rw [← hrl] at hrb HRL ⊢
        have HRLQ : Hid (wh = true → rl = 16) := Hid.mk (by
          intro hw
          have h1 := HWD.out
          have h2 := HJ.out
          have h3 := HML.out
          have h4 := HQ.out
          rw [hw] at h1
          have h5 : m.length ≠ 0 ∧ m.length % 16 = 0 := of_decide_eq_true h1.symm
          unfold nbl at h2
          rw [if_neg h5.1] at h2
          omega)
        have HRLN : Hid (wh = false → rl ≤ 15) := Hid.mk (by
          intro hw
          have h1 := HWD.out
          have h2 := HJ.out
          have h3 := HML.out
          have h4 := HQ.out
          rw [hw] at h1
          have h5 : ¬ (m.length ≠ 0 ∧ m.length % 16 = 0) := of_decide_eq_false h1.symm
          unfold nbl at h2
          by_cases h6 : m.length = 0
          · omega
          · rw [if_neg h6] at h2
            omega)
        clear hrl
        go_upto_if 36 with fail
        go_cut [8, 10, 11] from 14 to 73 (fun _ lv _ wx => Own w.heap.size 5 wx lv ((lastB (dbl F0) (dbl (dbl F0)) m).map cb) ∧ Keep wc wx)
        case first => as_aux_lemma =>
          have hsz : w.heap.size ≤ wc.heap.size := (K0.trans K6).size
          cases hwc : wh with
          | true =>
            have hd := HD.out
            rw [hwc, if_pos rfl] at hd
            have h16 := HRLQ.out hwc
            have XC := fun W (hkW : Keep wc W) => xor_c _ _ (m.drop q) (dbl F0) W (hrb.keep hkW) (O5.bs.keep hkW) (by rw [HRL.out, dbl_length]; omega) (by rw [dbl_length]; omega)
            have KAL := (Keep.refl wc).alloc (.cells #[] 5)
            have HDD := Hid.mk hd
            clear hd h16
            go_wp2_with fail
            refine (XC _ (by first | exact KAL | exact Keep.refl _)).mono ?_
            rintro e y ⟨v, rfl, o, kk⟩
            go_wp2_with fail
            go_meet
            case rel => exact ⟨by rw [HDD.out]; exact o.mono (by first | exact hsz | exact Nat.le_trans hsz KAL.size), by first | exact KAL.trans kk | exact kk⟩
          | false =>
            have hd := HD.out
            rw [hwc, if_neg (by simp)] at hd
            have h15 := HRLN.out hwc
            obtain ⟨s15, hs15⟩ : ∃ x : Nat, x = 15 - rl := ⟨_, rfl⟩
            have z1 : IntKind.i64.wrap (15 - (rl : Int)) = (s15 : Int) := by rw [IntKind.wrap_i64] <;> omega
            have HDD := Hid.mk hd
            have HS15 := Hid.mk hs15
            clear hd hs15
            have KAL := (Keep.refl wc).alloc (.cells #[] 5)
            have hr1 : Hid (rl ≤ 15) := Hid.mk h15
            clear h15
            have ONE : Bs ((wc.alloc (.cells #[] 5)).alloc (.cells #[.int .u8 128] 5)) (.slice (some ⟨wc.heap.size + 1, 0, none⟩) 1 1) [128] := by
              have := (Own.lit (B := 0) (e := 5) (w := wc.alloc (.cells #[] 5)) (([128] : List UInt8).map cb) (Nat.zero_le _) (by simp [maxLen])).bs
              simpa [cb] using this
            have KAM := KAL.alloc (.cells #[.int .u8 128] 5)
            have REP : ∀ W, Calls Tryz.prog 27 #[.int .u8 0, .int .i64 s15] W fun e w' => ∃ v', e = .returned v' ∧ Own W.heap.size 5 w' v' ((List.replicate s15 (0 : UInt8)).map cb) ∧ Keep W w' := fun W => repeat_c 0 s15 W (by have := HS15.out; omega)
            have J1 := join_c _ _ (m.drop q) [128] _ (hrb.keep KAM) ONE (by rw [HRL.out]; have := hr1.out; simp; omega)
            have FE : Hid (m.drop q ++ [128] ++ List.replicate s15 0 = fill (m.drop q)) := Hid.mk (by unfold fill; rw [HRL.out, HS15.out])
            have FL : Hid ((fill (m.drop q)).length = 16) := Hid.mk (fill_length _ (by rw [HRL.out]; exact hr1.out))
            go_wp2_with fail
            refine J1.mono ?_
            rintro e y1 ⟨u1, rfl, o1, q1⟩
            go_wp2_with fail
            refine (REP _).mono ?_
            rintro e y2 ⟨u2, rfl, o2, q2⟩
            go_wp2_with fail
            refine (join_c _ _ (m.drop q ++ [128]) (List.replicate s15 0) y2 (o1.bs.keep q2) o2.bs (by rw [List.length_append, HRL.out, List.length_replicate]; have := hr1.out; have := HS15.out; simp; omega)).mono ?_
            rintro e y3 ⟨u3, rfl, o3, q3⟩
            rw [FE.out] at o3
            have Q3 := ((KAM.trans q1).trans q2).trans q3
            go_wp2_with fail
            refine (xor_c _ _ (fill (m.drop q)) (dbl (dbl F0)) y3 o3.bs (O6.bs.keep Q3) (by rw [FL.out, dbl_length]; omega) (by rw [dbl_length]; omega)).mono ?_
            rintro e y4 ⟨u4, rfl, o4, q4⟩
            go_wp2_with fail
            go_meet
            case rel => exact ⟨by rw [HDD.out]; exact o4.mono (Nat.le_trans hsz Q3.size), Q3.trans q4⟩
        case rest => as_aux_lemma =>
          obtain ⟨oL, kL⟩ := hcut
          have KK := K6.trans kL
          have hmL := hm6.keep kL
          have hkL := hk1.keep KK
          have B0L := B0.keep KK
          have KW := K0.trans KK
          have R16 : ∀ W, Calls Tryz.prog 27 #[.int .u8 0, .int .i64 16] W fun e w' => ∃ v', e = .returned v' ∧ Own W.heap.size 5 w' v' (Z16.map cb) ∧ Keep W w' := fun W => repeat_c 0 16 W (by omega)
          have HLl : Hid ((lastB (dbl F0) (dbl (dbl F0)) m).length = 16) := Hid.mk (by
            rw [HD.out]
            by_cases hw : wh = true
            · rw [if_pos hw, xorl_length, HRL.out]; exact HRLQ.out hw
            · rw [if_neg hw, xorl_length]; exact fill_length _ (by rw [HRL.out]; exact HRLN.out (by simpa using hw)))
          obtain ⟨LB, hLB⟩ : ∃ LB, LB = lastB (dbl F0) (dbl (dbl F0)) m := ⟨_, rfl⟩
          rw [← hLB] at oL HLl
          have HLB := Hid.mk hLB
          have HJM : Hid (16 * j ≤ m.length) := Hid.mk (by rw [HJ.out]; exact nbl_le m)
          have hjb : j ≤ 4000000 := by have h := HJM.out; rw [← HML.out] at h; omega
          clear hLB hm6 hk1 B0 b0 b1 K6 hrb O5 O6 HD HRLQ HRLN HRL
          go_wp2_with fail
          refine (R16 _).mono ?_
          rintro e w7 ⟨v7, rfl, o7, k7⟩
          clear R16
          go_wp2_with fail
          go_loopw [12, 13] (fun xv iv wx => ∃ i : Nat, i ≤ j ∧ iv = .int .i64 i ∧ Own w.heap.size 5 wx xv ((chn f m i).map cb) ∧ Keep wc wx) (fun _ i _ => j - (intOf i).toNat)
          case atStart => exact ⟨0, by omega, rfl, o7.mono KW.size, k7⟩
          case round => as_aux_lemma =>
            clear o7 k7
            obtain ⟨i, hi, rfl, oX, kX⟩ := hrel
            have hXl := chn_length hfl m i
            have cb0 := (B0L.keep kX).cell 0
            have cb1 := (B0L.keep kX).cell 1
            simp only [List.getElem?_cons_zero, List.getElem?_cons_succ] at cb0 cb1
            have HKx := hkL.keep kX
            by_cases hli : i < j
            · have hli' : (i : Int) < j := by omega
              obtain ⟨p, hp⟩ : ∃ p : Nat, p = 16 * i := ⟨_, rfl⟩
              have hpm : p + 16 ≤ ml := by have := HJM.out; rw [← HML.out] at this; omega
              have x1 : IntKind.i64.wrap (16 * (i : Int)) = (p : Int) := by rw [IntKind.wrap_i64] <;> omega
              obtain ⟨p16, hp16⟩ : ∃ p16 : Nat, p16 = p + 16 := ⟨_, rfl⟩
              have x2 : IntKind.i64.wrap ((p : Int) + 16) = (p16 : Int) := by rw [IntKind.wrap_i64] <;> omega
              have x3 : (p16 : Int) ≤ ml := by omega
              have x4 : (p16 : Int) ≤ mc := by omega
              have x5 : (p : Int) ≤ mc := by omega
              have x6 : ¬ mc = p := by omega
              have x7 : (p : Int) ≤ p16 := by omega
              have x8 : (0 : Int) ≤ p := by omega
              have x9 : (0 : Int) ≤ p16 := by omega
              have HPt : Bs wr (.slice (ma.map (·.add p)) (p16 - p) (mc - p)) ((m.drop p).take 16) := by
                have h := (hmL.keep kX).part (i := p) (j := p16) (by omega) (by omega) (ma.map (·.add p)) (fun _ => rfl)
                have e : p16 - p = 16 := by omega
                rw [e] at h ⊢
                exact h
              have EC : Hid (chn f m (i + 1) = f (xorl (chn f m i) ((m.drop p).take 16))) := Hid.mk (by rw [hp]; rfl)
              have HDl : Hid (((m.drop p).take 16).length = 16) := Hid.mk (by rw [List.length_take, List.length_drop, ← HML.out]; omega)
              have HXX := Hid.mk hXl
              have HPH := Hid.mk HPt
              obtain ⟨xa, xc, hxv, -, -, -⟩ := oX.bs.form
              rw [hXl] at hxv
              subst hxv
              clear hp hp16 hXl HPt
              go_wp2_with fail
              go_region_held3 (fun W => W.cell? ⟨w.heap.size, 0, none⟩ = some (.int .i64 al) ∧ W.cell? ⟨w.heap.size, 1, none⟩ = some (.slice ka kn kc))
                (first | assumption | exact ⟨Q2.cell cb0, Q2.cell cb1⟩ | exact ⟨Q1.cell cb0, Q1.cell cb1⟩ | exact ⟨cb0, cb1⟩)
                (first
                | (go_at_call 96; refine (xor_c _ _ (chn f m i) ((m.drop p).take 16) _ (oX.bs.keep (Keep.refl wr).drew) (HPH.out.keep (Keep.refl wr).drew) (by rw [HXX.out, HDl.out]; omega) (by rw [HDl.out]; omega)).mono ?_; rintro e y1 ⟨u1, rfl, o1, q1⟩; have Q1 : Keep wr y1 := (Keep.refl wr).drew.trans q1)
                | (go_at_call 98; refine (hE _ _ (xorl (chn f m i) ((m.drop p).take 16)) (HKx.keep Q1) o1.bs (by rw [xorl_length]; exact HXX.out)).mono ?_; rintro e y2 ⟨u2, rfl, o2, q2⟩; have Q2 : Keep wr y2 := Q1.trans q2))
              go_wp2_with fail
              go_roundw
              case rel => exact ⟨i + 1, by omega, by go_num, by rw [EC.out]; exact o2.mono (Nat.le_trans (KW.trans kX).size Q1.size), kX.trans Q2⟩
              case measure => simp [intOf]; omega
            · have hli' : ¬ (i : Int) < j := by omega
              have hij : i = j := by omega
              subst hij
              have HXX := Hid.mk hXl
              obtain ⟨xa, xc, hxv, -, -, -⟩ := oX.bs.form
              rw [hXl] at hxv
              subst hxv
              have oLx := oL.keep kX
              clear hXl
              go_wp2_with fail
              go_region_held3 (fun W => W.cell? ⟨w.heap.size, 0, none⟩ = some (.int .i64 al) ∧ W.cell? ⟨w.heap.size, 1, none⟩ = some (.slice ka kn kc))
                (first | assumption | exact ⟨Q2.cell cb0, Q2.cell cb1⟩ | exact ⟨Q1.cell cb0, Q1.cell cb1⟩ | exact ⟨cb0, cb1⟩)
                (first
                | (go_at_call 96; refine (xor_c _ _ LB (chn f m i) _ (oLx.bs.keep (Keep.refl wr).drew) (oX.bs.keep (Keep.refl wr).drew) (by rw [HXX.out, HLl.out]; omega) (by rw [HXX.out]; omega)).mono ?_; rintro e y1 ⟨u1, rfl, o1, q1⟩; have Q1 : Keep wr y1 := (Keep.refl wr).drew.trans q1)
                | (go_at_call 98; refine (hE _ _ (xorl LB (chn f m i)) (HKx.keep Q1) o1.bs (by rw [xorl_length]; exact HLl.out)).mono ?_; rintro e y2 ⟨u2, rfl, o2, q2⟩; have Q2 : Keep wr y2 := Q1.trans q2))
              go_wp2_with fail
              go_ret
              refine ⟨_, rfl, ?_, (KW.trans kX).trans Q2⟩
              rw [HCM.out, ← HLB.out, ← HJ.out]
              exact o2.mono (Nat.le_trans (KW.trans kX).size Q1.size)
end Go.Proofs.Qxb6500771aGreat
