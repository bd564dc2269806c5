/- The law RotationFar: its walk. -/
import Derived.Test.Qxb6500770aScript
import Derived.Test.Qxb6500770aRotLaw
import Derived.Test.Qxb6500770aT1
namespace Go.Proofs.Qxb6500770a
open Go.RowKit Go.Qm
set_option linter.unusedVariables false
set_option linter.unusedSimpArgs false

set_option maxHeartbeats 1000000 in
theorem far_c (v : Value) (ss : List OpR) (w : World) (h : Script w v ss) :
    Calls Try.prog 3 #[v] w fun e w' => e = .returned (.bool true) ∧ Keep w w' := by
  have hS := h
  obtain ⟨a, c, rfl, hac, hcm, hca⟩ := h
  unfold maxLen at hcm
  go_enter Try.func3, Try.ntmps3
  go_wp2_with fail
  refine (small_c _ ss w hS).mono ?_
  rintro e w1 ⟨⟨b, rfl, hsm⟩, kw1⟩
  cases b with
  | false =>
    go_wp2
    go_ret
    exact ⟨rfl, kw1⟩
  | true =>
    obtain ⟨hn, hdat⟩ := hsm rfl
    clear hsm
    go_wp2_with fail
    go_loopw [3] (fun iv wr => ∃ k : Nat, k ≤ ss.length ∧ iv = .int .i64 k ∧ Keep w wr) (fun i _ => ss.length - (intOf i).toNat)
    case atStart => exact ⟨0, by omega, rfl, kw1⟩
    case round =>
      obtain ⟨k, hk, rfl, kw⟩ := hrel
      by_cases hlt : k < ss.length
      · obtain ⟨b, o, rfl, hop⟩ := hca k hlt
        obtain ⟨h0, h1, h2, h3, hnn, hb, hr⟩ := hop.keep kw
        have hdl := hdat ss[k] (List.getElem_mem hlt)
        generalize ss[k] = op at *
        obtain ⟨kind, off, n, dv, l⟩ := op
        simp only at h0 h1 h2 h3 hnn hb hr hdl
        have i1 : (k : Int) < ss.length := by omega
        obtain ⟨hn0, hn1⟩ := hnn
        clear hca hop hdat
        go_wp2_with fail
        refine (isRot_c kind wr).mono ?_
        rintro e w2 ⟨⟨bb, rfl⟩, rfl⟩
        cases bb with
        | false =>
          go_wp2
          go_roundw
          case rel => exact ⟨k + 1, by omega, by go_num, kw⟩
          case measure => simp [intOf]; omega
        | true =>
          obtain ⟨av, cv, rfl, hl, hm, _⟩ := hb.form
          go_wp2
          go_quiet (fail)
          obtain ⟨N, hN⟩ : ∃ N, bits BinOp.xor IntKind.u64 (if IntKind.u64.signed = true then -1 else IntKind.u64.max) n = N := ⟨_, rfl⟩
          have hNb := bounds_u64 (wf_bits BinOp.xor IntKind.u64 (if IntKind.u64.signed = true then -1 else IntKind.u64.max) n)
          rw [hN] at hNb ⊢
          clear hN h0 h1 h2 h3
          obtain ⟨hN0, hN1⟩ := hNb
          have kq : Keep w2 (w2.drewN nq) := (Keep.refl _).drewN _
          replace hb := hb.keep kq
          replace kw := kw.trans kq
          generalize w2.drewN nq = w3 at *
          by_cases hz : l.length = 0
          · have hz' : ((l.length : Int) == 0) = true := beq_iff_eq.2 (by omega)
            go_wp2
            go_roundw
            case rel => exact ⟨k + 1, by omega, by go_num, kw⟩
            case measure => simp [intOf]; omega
          · have hz' : ((l.length : Int) == 0) = false := beq_eq_false_iff_ne.2 (by omega)
            have hl6 : l.length ≤ 1000000 := by omega
            obtain ⟨s, hs⟩ : ∃ s : Nat, N.toNat % (l.length * 8) = s := ⟨_, rfl⟩
            have hsl : s < l.length * 8 := by rw [← hs]; exact Nat.mod_lt _ (by omega)
            have es : N % ((l.length : Int) * 8) = (s : Int) := by rw [← hs]; simp [Int.toNat_of_nonneg hN0]
            have HS := Hid.mk hs
            clear hs
            unfold maxLen at hm
            go_wp2_with fail
            -- far := Clone(s)
            refine (clone_c _ l w3 hb (by omega)).mono ?_
            rintro e w4 ⟨v1, rfl, ow1, k4⟩
            rcases ow1.win with ⟨rfl, hx⟩ | ⟨g1, c1, sp1, rfl, hB1, hw1, hc1, hm1⟩
            · exact absurd (by rw [hx]; rfl) hz
            go_wp2_with fail
            -- RotateRight(far, k)
            refine (rotR_c g1 c1 5 sp1 l N w4 hN0 (by omega) hl6 (by omega) hm1 hw1).mono ?_
            rintro e w5 ⟨rfl, hw5, hg5⟩
            have k5 : Keep w3 w5 := k4.grown hg5 (fun q hq => by simp at hq; omega)
            rw [HS.out] at hw5
            clear hw1 ow1
            go_wp2_with fail
            -- short := Clone(s)
            refine (clone_c _ l w5 (hb.keep k5) (by omega)).mono ?_
            rintro e w6 ⟨v2, rfl, ow2, k6⟩
            rcases ow2.win with ⟨rfl, hx⟩ | ⟨g2, c2, sp2, rfl, hB2, hw2, hc2, hm2⟩
            · exact absurd (by rw [hx]; rfl) hz
            clear ow2
            go_wp2_with fail
            -- RotateRight(short, near)
            refine (rotR_c g2 c2 5 sp2 l s w6 (by omega) (by omega) hl6 (by omega) hm2 hw2).mono ?_
            rintro e w7 ⟨rfl, hw7, hg7⟩
            rw [Int.toNat_natCast, Nat.mod_eq_of_lt hsl] at hw7
            have k7 : Keep w5 w7 := k6.grown hg7 (fun q hq => by simp at hq; omega)
            replace hw5 := hw5.keep k7
            have hb7 := hb.keep (k5.trans k7)
            clear hw2 hg7
            go_wp2_with fail
            -- Same(far, short)
            refine (same_c _ _ (bitR l s) (bitR l s) w7 (hw5.bs (bitR_length _ _).symm (by omega) hm1) (hw7.bs (bitR_length _ _).symm (by omega) hm2)).mono ?_
            rintro e w8 ⟨rfl, k8⟩
            rw [decide_eq_true rfl]
            replace hw5 := hw5.keep k8
            replace hw7 := hw7.keep k8
            replace hb7 := hb7.keep k8
            have hmk := run_make1 (P := Try.prog) Try.underlying27 inf5 rfl l.length l.length (by omega) (by omega) (by omega) (by omega)
            simp only [Int.toNat_natCast] at hmk
            go_wp2_with fail
            clear hmk
            -- RotatedRight(second, s, k)
            have k9 : Keep w8 (w8.alloc (.cells (rep l.length (.int .u8 0)) 5)) := (Keep.refl _).alloc _
            refine (rotd_c w8.heap.size l.length l.length 5 [] l (List.replicate l.length 0) _ N _ hN0 (by omega) hl6 (by simp) rfl (Nat.le_refl _) (by unfold maxLen; omega) (by omega) ?_ (hb7.keep k9) (hb7.block hz (Nat.le_refl _))).mono ?_
            · unfold Win
              rw [heap_alloc_new, rep_cb]
              simp
            rintro e w10 ⟨rfl, hw10, hg10⟩
            rw [HS.out, ← bitR_eq_rd l s hsl] at hw10
            have k10 : Keep w8 w10 := k9.grown hg10 (fun q hq => by simp at hq; omega)
            replace hw5 := hw5.keep k10
            replace hw7 := hw7.keep k10
            replace hb7 := hb7.keep k10
            clear hg10
            go_wp2_with fail
            -- Same(second, short)
            refine (same_c _ _ (bitR l s) (bitR l s) w10 (hw10.bs (bitR_length _ _).symm (by omega) (by unfold maxLen; omega)) (hw7.bs (bitR_length _ _).symm (by omega) hm2)).mono ?_
            rintro e w11 ⟨rfl, k11⟩
            rw [decide_eq_true rfl]
            replace hw5 := hw5.keep k11
            replace hb7 := hb7.keep k11
            go_wp2_with fail
            -- RotateLeft(far, k)
            have hlen := bitR_length l s
            refine (rotL_c g1 l.length c1 5 sp1 (bitR l s) N w11 hN0 (by omega) hlen.symm hl6 (by omega) hm1 hw5).mono ?_
            rintro e w12 ⟨rfl, hw12, hg12⟩
            rw [hlen, HS.out, bitR_back l s hsl] at hw12
            have k12 : Keep w3 w12 := ((((k5.trans k7).trans k8).trans k10).trans k11).grown hg12 (fun q hq => by simp at hq; omega)
            go_wp2_with fail
            -- Same(far, s)
            refine (same_c _ _ l l w12 (hw12.bs rfl (by omega) hm1) (hb.keep k12)).mono ?_
            rintro e w13 ⟨rfl, k13⟩
            rw [decide_eq_true rfl]
            go_wp2
            go_roundw
            case rel => exact ⟨k + 1, by omega, by go_num, kw.trans (k12.trans k13)⟩
            case measure => simp [intOf]; omega
      · have i1 : ¬ (k : Int) < ss.length := by omega
        go_wp2
        go_ret
        exact ⟨rfl, kw⟩
end Go.Proofs.Qxb6500770a
