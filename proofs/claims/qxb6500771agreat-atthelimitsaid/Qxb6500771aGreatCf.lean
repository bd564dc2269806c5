/- cipherm: Camellia's encryption, over any key schedule. -/
import Derived.Test.Qxb6500771aGreatRi
import Derived.Deep.CutRange
import Derived.Deep.LoopGhost
namespace Go.Proofs.Qxb6500771aGreat
open Go.RowKit Go.Qm
set_option linter.unusedVariables false
set_option linter.unusedSimpArgs false
attribute [local go_sem ↓] Go.wp_at_zero Go.wp_at_succ

/-- One pair of rounds at i. -/
def cmR (ks kes : List Int) (i : Nat) (d : Int × Int) : Int × Int :=
  let e := if 0 < i ∧ i % 6 = 0 then (cFL d.1 (kes.getD (i / 3 - 2) 0), cFI d.2 (kes.getD (i / 3 - 1) 0)) else d
  let d2 := bits .xor .u64 e.2 (cF e.1 (ks.getD i 0))
  (bits .xor .u64 e.1 (cF d2 (ks.getD (i + 1) 0)), d2)
def cmK (ks kes : List Int) (d : Int × Int) : Nat → Int × Int
  | 0 => d
  | j + 1 => cmR ks kes (2 * j) (cmK ks kes d j)
def cam (kws ks kes : List Int) (blk : List UInt8) : List UInt8 :=
  let d := cmK ks kes (bits .xor .u64 ((num ((blk.drop 0).take 8) : Nat) : Int) (kws.getD 0 0), bits .xor .u64 ((num ((blk.drop 8).take 8) : Nat) : Int) (kws.getD 1 0)) (ks.length / 2)
  dig (n64 (bits .xor .u64 d.2 (kws.getD 2 0))) 8 ++ dig (n64 (bits .xor .u64 d.1 (kws.getD 3 0))) 8
theorem cam_length (kws ks kes : List Int) (blk : List UInt8) : (cam kws ks kes blk).length = 16 := by
  simp [cam, dig_length]
theorem w64n (a : Nat) (h : a ≤ 1000) : wrap64 (a : Int) = (a : Int) := IntWalk.wrap64_in _ (by omega)
theorem w64s (a b : Nat) (k : Int) (h : (a : Int) - k = (b : Int)) (hb : b ≤ 1000) : wrap64 ((a : Int) - k) = (b : Int) := by rw [h]; exact w64n b hb
set_option maxRecDepth 2000 in
set_option maxHeartbeats 4000000 in
theorem camellia_c (kv bv : Value) (key blk : List UInt8) (kws ks kes : List Int) (w : World) (hk : Bs w kv key) (hb : Bs w bv blk) (hbl : blk.length = 16) (h4 : kws.length = 4) (h : Nat) (hks : ks.length = 2 * h) (h1 : 1 ≤ h) (h12 : h ≤ 12) (hke1 : kes.length ≠ 0) (hke : ∀ j, j < h → 0 < j → 2 * j % 6 = 0 → 2 * j / 3 - 1 < kes.length)
    (CK : ∀ W, Bs W kv key → Calls Tryz.prog 115 #[kv] W fun e w' => ∃ v1 v2, e = .returned (.tuple #[.agg (kws.map u64v).toArray, v1, v2]) ∧ Own W.heap.size 29 w' v1 (ks.map u64v) ∧ Own W.heap.size 29 w' v2 (kes.map u64v) ∧ Keep W w') :
    Calls Tryz.prog 103 #[kv, bv, .bool false] w fun e w' => ∃ v', e = .returned v' ∧ Own w.heap.size 5 w' v' ((cam kws ks kes blk).map cb) ∧ Keep w w' := by
  obtain ⟨ba, bc, rfl, hbc, hbm, -⟩ := hb.form
  unfold maxLen at hbm
  rw [hbl] at hb hbc ⊢
  have P0 := fun W (h : Keep w W) => number_c _ _ W ((hb.keep h).part (i := 0) (j := 8) (by omega) (by omega) ba (fun _ => by cases ba <;> simp [Addr.add])) (by rw [List.length_take]; omega)
  have P1 := fun W (h : Keep w W) => number_c _ _ W ((hb.keep h).part (i := 8) (j := 16) (by omega) (by omega) (ba.map (·.add 8)) (fun _ => rfl)) (by rw [List.length_take]; omega)
  obtain ⟨x0, x1, x2, x3, hkw⟩ : ∃ x0 x1 x2 x3, kws = [x0, x1, x2, x3] := by
    match kws, h4 with
    | [x0, x1, x2, x3], _ => exact ⟨x0, x1, x2, x3, rfl⟩
  subst hkw
  have HBL := Hid.mk hbl
  clear hbl h4
  go_enter Tryz.func103, Tryz.ntmps103
  go_wp2_with fail
  refine (CK _ hk).mono ?_
  rintro e w1 ⟨v1, v2, rfl, o1, o2, k1⟩
  have A1 : Arr (w1.alloc (.cells #[.int .u64 x0, .int .u64 x1, .int .u64 x2, .int .u64 x3] 145)) w1.heap.size 145 [.int .u64 x0, .int .u64 x1, .int .u64 x2, .int .u64 x3] := Arr.new w1 145 _
  have K1 := k1.alloc (.cells #[.int .u64 x0, .int .u64 x1, .int .u64 x2, .int .u64 x3] 145)
  have k12 := (Keep.refl w1).alloc (.cells #[.int .u64 x0, .int .u64 x1, .int .u64 x2, .int .u64 x3] 145)
  simp only [List.map_cons, List.map_nil, u64v]
  go_wp2_with fail
  generalize w1.alloc (.cells #[.int .u64 x0, .int .u64 x1, .int .u64 x2, .int .u64 x3] 145) = w2 at *
  have O1 := o1.keep (show Keep w1 w1 from Keep.refl _)
  generalize hg7 : w1.heap.size = g7 at *
  have cells : ∀ W, Keep w2 W → W.cell? ⟨g7, 0, none⟩ = some (.int .u64 x0) ∧ W.cell? ⟨g7, 1, none⟩ = some (.int .u64 x1) ∧ W.cell? ⟨g7, 2, none⟩ = some (.int .u64 x2) ∧ W.cell? ⟨g7, 3, none⟩ = some (.int .u64 x3) := fun W h => ⟨(A1.keep h).cell 0, (A1.keep h).cell 1, (A1.keep h).cell 2, (A1.keep h).cell 3⟩
  have i1 : (8 : Int) ≤ bc := by omega
  have i2 : (16 : Int) ≤ bc := by omega
  have i3 : ¬ bc = 0 := by omega
  have i4 : ¬ bc = 8 := by omega
  generalize hn0 : ((num ((blk.drop 0).take (8 - 0)) : Nat) : Int) = m0 at *
  generalize hn1 : ((num ((blk.drop 8).take (16 - 8)) : Nat) : Int) = m1 at *
  have HN0 := Hid.mk hn0
  have HN1 := Hid.mk hn1
  clear hn0 hn1 O1 CK
  obtain ⟨d1, hd1⟩ : ∃ d, d = bits .xor .u64 m0 x0 := ⟨_, rfl⟩
  obtain ⟨d2, hd2⟩ : ∃ d, d = bits .xor .u64 m1 x1 := ⟨_, rfl⟩
  have e1 := hd1.symm
  have e2 := hd2.symm
  have HD1 := Hid.mk hd1
  have HD2 := Hid.mk hd2
  clear hd1 hd2
  go_cut [10] from 14 to 103 (fun v wx => v = .int .u64 d1 ∧ Keep w2 wx)
  case first => as_aux_lemma =>
    go_region_held3 (fun W => W.cell? ⟨g7, 0, none⟩ = some (.int .u64 x0) ∧ W.cell? ⟨g7, 1, none⟩ = some (.int .u64 x1) ∧ W.cell? ⟨g7, 2, none⟩ = some (.int .u64 x2) ∧ W.cell? ⟨g7, 3, none⟩ = some (.int .u64 x3))
      ((refine cells _ ?_; first | (with_reducible exact Q1) | (with_reducible exact (Keep.refl _)) | (with_reducible exact (Keep.refl _).drew)))
      ((go_at_call 74; refine (P0 _ K1.drew).mono ?_; rintro e y ⟨rfl, q1⟩; have Q1 : Keep w2 y := (Keep.refl w2).drew.trans q1))
    go_wp2_with fail
    go_meet
    case rel => exact ⟨rfl, Q1⟩
  case rest => as_aux_lemma =>
    obtain ⟨rfl, k3⟩ := hcut
    go_wp2_with fail
    go_cut [11] from 14 to 103 (fun v wx => v = .int .u64 d2 ∧ Keep w2 wx)
    case first => as_aux_lemma =>
      have KP := K1.trans k3
      go_region_held3 (fun W => W.cell? ⟨g7, 0, none⟩ = some (.int .u64 x0) ∧ W.cell? ⟨g7, 1, none⟩ = some (.int .u64 x1) ∧ W.cell? ⟨g7, 2, none⟩ = some (.int .u64 x2) ∧ W.cell? ⟨g7, 3, none⟩ = some (.int .u64 x3))
        ((refine cells _ ?_; first | (with_reducible exact Q1) | (with_reducible exact k3) | (with_reducible exact k3.drew)))
        ((go_at_call 74; refine (P1 _ KP.drew).mono ?_; rintro e y ⟨rfl, q1⟩; have Q1 : Keep w2 y := k3.drew.trans q1))
      go_wp2_with fail
      go_meet
      case rel => exact ⟨rfl, Q1⟩
    case rest => as_aux_lemma =>
      obtain ⟨rfl, k4⟩ := hcut
      clear k3 P0 P1 e1 e2 i1 i2 i3 i4
      have HKS := Hid.mk hks
      have HKE := Hid.mk hke
      rcases o1.form with ⟨-, h0⟩ | ⟨g8, c8, sp8, hv8, hB8, hg8, hc8, hm8⟩
      · have e := List.map_eq_nil_iff.1 h0
        rw [e] at hks
        simp at hks
        omega
      rcases o2.form with ⟨-, h0⟩ | ⟨g9, c9, sp9, hv9, hB9, hg9, hc9, hm9⟩
      · exact absurd (by rw [List.map_eq_nil_iff.1 h0]; rfl) hke1
      rw [List.length_map] at hv8 hv9 hc8 hc9
      rw [hks] at hv8 hc8
      have G8 : ∀ W, Keep w2 W → ∀ i, i < 2 * h → W.cell? ⟨g8, i, none⟩ = some (.int .u64 (ks.getD i 0)) := by
        intro W hW i hi
        rw [blk_cell (hW.heap (k12.heap hg8)) i, List.getElem?_append_left (by simp; have := HKS.out; omega), List.getElem?_map, List.getD_eq_getElem?_getD, List.getElem?_eq_getElem (by have := HKS.out; omega)]
        rfl
      have G9 : ∀ W, Keep w2 W → ∀ i, i < kes.length → W.cell? ⟨g9, i, none⟩ = some (.int .u64 (kes.getD i 0)) := by
        intro W hW i hi
        rw [blk_cell (hW.heap (k12.heap hg9)) i, List.getElem?_append_left (by simp; omega), List.getElem?_map, List.getD_eq_getElem?_getD, List.getElem?_eq_getElem hi]
        rfl
      subst hv8 hv9
      obtain ⟨n8, hn8⟩ : ∃ n8, n8 = 2 * h := ⟨_, rfl⟩
      rw [← hn8] at G8 hc8 ⊢
      obtain ⟨kl, hkl⟩ : ∃ kl, kl = kes.length := ⟨_, rfl⟩
      rw [← hkl] at G9 hc9 ⊢
      have HN8 := Hid.mk hn8
      have HKL := Hid.mk hkl
      have n24 : n8 ≤ 24 := by omega
      unfold maxLen at hm8 hm9
      clear hn8 hkl hke hks hg8 hg9 hke1
      go_wp2_with fail
      have h1' : 1 ≤ h := h1
      have HG8 := Hid.mk G8
      have HG9 := Hid.mk G9
      clear G8 G9
      go_loopg [10, 11, 12] h (fun gk v10 v11 iv wr => ∃ j i : Nat, j + gk = h ∧ i = 2 * j ∧ iv = .int .i64 i ∧ v10 = .int .u64 (cmK ks kes (d1, d2) j).1 ∧ v11 = .int .u64 (cmK ks kes (d1, d2) j).2 ∧ Keep w2 wr)
      case atStart => exact ⟨0, 0, by omega, rfl, rfl, rfl, rfl, k4⟩
      case round => as_aux_lemma =>
        clear k4
        obtain ⟨j, i, hj, hi, rfl, rfl, rfl, kX⟩ := hrel
        have ER : Hid (cmK ks kes (d1, d2) (j + 1) = cmR ks kes (2 * j) (cmK ks kes (d1, d2) j)) := Hid.mk rfl
        rw [← hi] at ER
        obtain ⟨⟨a1, a2⟩, ha⟩ : ∃ x, x = cmK ks kes (d1, d2) j := ⟨_, rfl⟩
        rw [← ha] at ER ⊢
        have HI := Hid.mk hi
        have HA := Hid.mk ha
        have HJ := Hid.mk hj
        clear ha hi hj
        by_cases hlt : i < n8
        · have hlt' : (i : Int) < n8 := by omega
          have hi1 : i + 1 < n8 := by have := HI.out; have := HN8.out; omega
          obtain ⟨i1, hi1'⟩ : ∃ i1 : Nat, i1 = i + 1 := ⟨_, rfl⟩
          have G80 := fun W hW => HG8.out W hW i hlt
          have G81 := fun W hW => HG8.out W hW i1 (by omega)
          obtain ⟨kA, hkA⟩ : ∃ x, x = ks.getD i 0 := ⟨_, rfl⟩
          obtain ⟨kB, hkB⟩ : ∃ x, x = ks.getD i1 0 := ⟨_, rfl⟩
          rw [← hkA] at G80
          rw [← hkB] at G81
          have HKA := Hid.mk hkA
          have HKB := Hid.mk hkB
          clear hkA hkB
          have y2 : (i1 : Int) < n8 := by omega
          have HI1 := Hid.mk hi1'
          have hi24 : i1 < 100 := by omega
          clear hi1'
          obtain ⟨fl, hfl⟩ : ∃ b : Bool, b = decide (0 < i ∧ i % 6 = 0) := ⟨_, rfl⟩
          have HFL := Hid.mk hfl
          clear hfl
          go_upto_region 11 with fail
          go_cut [57] from 45 to 90 (fun c wx => c = .bool fl ∧ wx = wr)
          case first => as_aux_lemma =>
            by_cases hi0 : 0 < i
            · have q1 : (i : Int) > 0 := by omega
              have q2 : (i : Int).tmod 6 = ((i % 6 : Nat) : Int) := (Int.ofNat_tmod i 6).symm
              obtain ⟨r, hr⟩ : ∃ r : Nat, r = i % 6 := ⟨_, rfl⟩
              rw [← hr] at q2
              have HR := Hid.mk hr
              clear hr
              go_wp2_with fail
              go_meet
              case rel =>
                refine ⟨?_, rfl⟩
                rw [HFL.out, ← HR.out]
                congr 1
                by_cases e : r = 0
                · subst e; simp [hi0]
                · have e' : ¬ ((r : Int) = 0) := by omega
                  simp [e, e']
            · have q1 : ¬ (i : Int) > 0 := by omega
              go_wp2_with fail
              go_meet
              case rel =>
                refine ⟨?_, rfl⟩
                rw [HFL.out]
                simp [hi0]
          case rest => as_aux_lemma =>
            obtain ⟨rfl, rfl⟩ := hcut
            obtain ⟨⟨b1, b2⟩, hb12⟩ : ∃ x, x = (if 0 < i ∧ i % 6 = 0 then (cFL a1 (kes.getD (i / 3 - 2) 0), cFI a2 (kes.getD (i / 3 - 1) 0)) else (a1, a2)) := ⟨_, rfl⟩
            have HB12 := Hid.mk hb12
            clear hb12
            go_upto_if 57 with fail
            go_cut [10, 11] from 45 to 90 (fun v10 v11 wx => v10 = .int .u64 b1 ∧ v11 = .int .u64 b2 ∧ Keep w2 wx)
            case first => as_aux_lemma =>
              by_cases hfl : 0 < i ∧ i % 6 = 0
              · have hfl1 : fl = true := by rw [HFL.out]; exact decide_eq_true hfl
                subst hfl1
                obtain ⟨q, hq⟩ : ∃ q : Nat, i = 6 * (q + 1) := ⟨i / 6 - 1, by omega⟩
                have hj6 := HKE.out (3 * (q + 1)) (by have := HI.out; have := HN8.out; omega) (by omega) (by omega)
                obtain ⟨ia, hia⟩ : ∃ x : Nat, x = 2 * q := ⟨_, rfl⟩
                obtain ⟨ib, hib⟩ : ∃ x : Nat, x = 2 * q + 1 := ⟨_, rfl⟩
                have hib' : ib < kl := by have := HKL.out; omega
                have hia' : ia < kl := by omega
                have ga := HG9.out _ kX ia hia'
                have gb := fun W hW => HG9.out W hW ib hib'
                have e1 : i / 3 - 2 = ia := by omega
                have e2 : i / 3 - 1 = ib := by omega
                rw [if_pos hfl, e1, e2] at HB12
                have FA := fun W => camFL_c a1 (kes.getD ia 0) W
                have FB := fun W => camFLINV_c a2 (kes.getD ib 0) W
                obtain ⟨kA', hkA'⟩ : ∃ x, x = kes.getD ia 0 := ⟨_, rfl⟩
                obtain ⟨kB', hkB'⟩ : ∃ x, x = kes.getD ib 0 := ⟨_, rfl⟩
                rw [← hkA'] at ga FA HB12
                rw [← hkB'] at gb FB HB12
                have hB12 := HB12.out
                simp only [Prod.mk.injEq] at hB12
                obtain ⟨hB1, hB2⟩ := hB12
                rw [← hB1] at FA
                rw [← hB2] at FB
                have p1 : (ia : Int) < kl := by omega
                have p2 : (ib : Int) < kl := by omega
                have p3 : (i : Int).tdiv 3 = ((2 * q + 2 : Nat) : Int) := by rw [hq, show ((6 * (q + 1) : Nat) : Int) = 3 * ((2 * q + 2 : Nat) : Int) by omega, Int.mul_tdiv_cancel_left _ (by omega)]
                obtain ⟨ic, hic⟩ : ∃ x : Nat, x = 2 * q + 2 := ⟨_, rfl⟩
                rw [← hic] at p3
                have hic1 : ia = ic - 2 := by omega
                have hic2 : ib = ic - 1 := by omega
                have hicb : ic ≤ 1000 := by omega
                have hicc : 2 ≤ ic := by omega
                rw [hic1] at ga p1
                rw [hic2] at gb p2
                have p1 : (ic : Int) - 2 < kl := by omega
                have p2 : (ic : Int) - 1 < kl := by omega
                clear hkA' hkB' hB1 hB2 HB12 hia hib hic hq hj6 e1 e2 hfl hic1 hic2 hia' hib'
                go_wp2_with fail
                with_reducible refine (FA _).mono ?_
                rintro e yw ⟨rfl, rfl⟩
                have gb' := gb _ kX
                go_wp2_with fail
                with_reducible refine (FB _).mono ?_
                rintro e yw ⟨rfl, rfl⟩
                go_wp2_with fail
                go_meet
                case rel => exact ⟨rfl, rfl, kX⟩
              · have hfl1 : fl = false := by rw [HFL.out]; exact decide_eq_false hfl
                subst hfl1
                rw [if_neg hfl] at HB12
                have hB12 := HB12.out
                simp only [Prod.mk.injEq] at hB12
                obtain ⟨rfl, rfl⟩ := hB12
                clear hfl
                go_wp2_with fail
                go_meet
                case rel => exact ⟨rfl, rfl, kX⟩
            case rest => as_aux_lemma =>
              obtain ⟨rfl, rfl, kY⟩ := hcut
              have FA := fun W => camF_c b1 kA W
              obtain ⟨f1, hf1⟩ : ∃ x, x = cF b1 kA := ⟨_, rfl⟩
              rw [← hf1] at FA
              obtain ⟨b3, hb3⟩ : ∃ x, x = bits .xor .u64 b2 f1 := ⟨_, rfl⟩
              have FB := fun W => camF_c b3 kB W
              obtain ⟨f2, hf2⟩ : ∃ x, x = cF b3 kB := ⟨_, rfl⟩
              rw [← hf2] at FB
              obtain ⟨b4, hb4⟩ : ∃ x, x = bits .xor .u64 b1 f2 := ⟨_, rfl⟩
              have HF1 := Hid.mk hf1
              have HF2 := Hid.mk hf2
              have HB3 := Hid.mk hb3
              have HB4 := Hid.mk hb4
              have z3 := hb3.symm
              have z4 := hb4.symm
              clear hf1 hf2 hb3 hb4
              have g1 := G80 _ kY
              have y1 : IntKind.i64.wrap ((i : Int) + 1) = (i1 : Int) := by rw [HI1.out, IntKind.wrap_i64] <;> omega
              have HI2 : IntKind.i64.wrap ((i : Int) + 2) = ((i + 2 : Nat) : Int) := by rw [IntKind.wrap_i64] <;> omega
              go_wp2_with fail
              refine (FA _).mono ?_
              rintro e y1w ⟨rfl, kA'⟩
              have g2 := G81 _ (kY.trans kA')
              clear g1
              go_wp2_with fail
              refine (FB _).mono ?_
              rintro e y2w ⟨rfl, kB'⟩
              go_wp2_with fail
              go_roundg (h - (j + 1))
              case measure => have := HI.out; have := HN8.out; have := HJ.out; omega
              case rel =>
                refine ⟨j + 1, i + 2, by have := HI.out; have := HN8.out; omega, by have := HI.out; omega, by first | rfl | rw [HI2], ?_, ?_, (kY.trans kA').trans kB'⟩
                · rw [ER.out]; unfold cmR; simp only []; rw [← HB12.out, HB4.out, HF2.out, HB3.out, HF1.out, HKA.out, HKB.out, HI1.out]
                · rw [ER.out]; unfold cmR; simp only []; rw [← HB12.out, HB3.out, HF1.out, HKA.out]
        · have hlt' : ¬ (i : Int) < n8 := by omega
          have hjh : j = h := by have := HI.out; have := HN8.out; have := HJ.out; omega
          subst hjh
          have kW := K1.trans kX
          obtain ⟨s0, s1, s2, s3⟩ := cells _ kX
          have e1 : bits .xor .u64 a2 x2 = ((n64 (bits .xor .u64 a2 x2) : Nat) : Int) := bits64_n _ _ _
          have e2 : bits .xor .u64 a1 x3 = ((n64 (bits .xor .u64 a1 x3) : Nat) : Int) := bits64_n _ _ _
          have DA := fun W => digits64_c (bits .xor .u64 a2 x2) 8 W (by omega)
          have DB := fun W => digits64_c (bits .xor .u64 a1 x3) 8 W (by omega)
          have lA := dig_length (n64 (bits .xor .u64 a2 x2)) 8
          have lB := dig_length (n64 (bits .xor .u64 a1 x3)) 8
          have EE : Hid (dig (n64 (bits .xor .u64 a2 x2)) 8 ++ dig (n64 (bits .xor .u64 a1 x3)) 8 = cam [x0, x1, x2, x3] ks kes blk) := Hid.mk (by
            unfold cam
            have q : (cmK ks kes (bits .xor .u64 ((num ((blk.drop 0).take 8) : Nat) : Int) x0, bits .xor .u64 ((num ((blk.drop 8).take 8) : Nat) : Int) x1) (ks.length / 2)) = (a1, a2) := by
              rw [HKS.out, Nat.mul_div_cancel_left _ (by omega), HA.out, HD1.out, HD2.out, ← HN0.out, ← HN1.out]
            simp only [List.getD_cons_zero, List.getD_cons_succ]
            rw [q])
          generalize n64 (bits .xor .u64 a2 x2) = nA at *
          generalize n64 (bits .xor .u64 a1 x3) = nB at *
          go_wp2_with fail
          refine (DA _).mono ?_
          rintro e wA ⟨vA, rfl, oA, kA⟩
          go_wp2_with fail
          refine (DB _).mono ?_
          rintro e wB ⟨vB, rfl, oB, kB⟩
          go_wp2_with fail
          have oA' := (oA.keep kB).bs
          have oB' := oB.bs
          refine (join_c _ _ _ _ _ oA' oB' (by rw [lA, lB]; omega)).mono ?_
          rintro e wC ⟨vC, rfl, oC, kC⟩
          go_wp2
          go_ret
          rw [EE.out] at oC
          exact ⟨_, rfl, oC.mono (((kW.trans kA).trans kB).size), ((kW.trans kA).trans kB).trans kC⟩
end Go.Proofs.Qxb6500771aGreat
