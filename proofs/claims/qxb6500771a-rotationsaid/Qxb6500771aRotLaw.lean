/- The law Rotation: its walk. -/
import Derived.Test.Qxb6500771aSmall
import Derived.Test.Qxb6500771aRotB
namespace Go.Proofs.Qxb6500771a
open Go.RowKit Go.Qm
set_option linter.unusedVariables false
set_option linter.unusedSimpArgs false

theorem back (l : List UInt8) (n : Int) : rl (rl l (-n % (l.length : Int)).toNat) (n % ((rl l (-n % (l.length : Int)).toNat).length : Int)).toNat = l := by
  rw [rl_length, rl_rl]
  by_cases h0 : l.length = 0
  · rw [List.eq_nil_of_length_eq_zero h0]; rfl
  · apply rl_zero
    have hz : (l.length : Int) ≠ 0 := by omega
    have h1 := Int.emod_nonneg n hz
    have h2 := Int.emod_nonneg (-n) hz
    apply Int.ofNat.inj
    show ((((-n % (l.length : Int)).toNat + (n % (l.length : Int)).toNat) % l.length : Nat) : Int) = 0
    rw [Int.natCast_emod, Int.natCast_add, Int.toNat_of_nonneg h1, Int.toNat_of_nonneg h2, ← Int.add_emod, Int.add_left_neg, Int.zero_emod]
theorem right_same (l : List UInt8) (n : Nat) : rl l (-(n : Int) % (l.length : Int)).toNat = roN l n := by
  by_cases h0 : l.length = 0
  · have : l = [] := List.eq_nil_of_length_eq_zero h0
    subst this
    have : roN [] n = [] := List.eq_nil_of_length_eq_zero (by rw [roN_length]; rfl)
    rw [this]; rfl
  · rw [roN_eq]
    exact rl_congr l (right_mod n l.length (by omega)).symm

set_option maxRecDepth 1200 in
set_option maxHeartbeats 4000000 in
theorem rotation_c (v : Value) (ss : List OpR) (w : World) (h : Script w v ss) :
    Calls Try.prog 4 #[v] w fun e w' => e = .returned (.bool true) ∧ Keep w w' := by
  have hS := h
  obtain ⟨a, c, rfl, hac, hcm, hca⟩ := h
  unfold maxLen at hcm
  go_enter Try.func4, Try.ntmps4
  go_wp2_with fail
  refine (small_c _ ss w hS).mono ?_
  rintro e w1 ⟨⟨b, rfl, hsm⟩, kw1⟩
  cases b with
  | false =>
    go_wp2
    go_ret
    exact ⟨rfl, kw1⟩
  | true =>
    obtain ⟨hn, hdat⟩ := hsm rfl
    clear hsm
    go_wp2_with fail
    go_loopw [3] (fun iv wr => ∃ k : Nat, k ≤ ss.length ∧ iv = .int .i64 k ∧ Keep w wr) (fun i _ => ss.length - (intOf i).toNat)
    case atStart => exact ⟨0, by omega, rfl, kw1⟩
    case round =>
      obtain ⟨k, hk, rfl, kw⟩ := hrel
      by_cases hlt : k < ss.length
      · obtain ⟨b, o, rfl, hop⟩ := hca k hlt
        replace hop := hop.keep kw
        have c7 := hop.c7
        have c10 := hop.c10
        have c13 := hop.c13
        obtain ⟨r0, r1⟩ := hop.r7
        obtain ⟨n0, n1⟩ := hop.r13
        have hb := hop.b10
        have hdl := (hdat ss[k] (List.getElem_mem hlt)).2.2
        generalize ss[k].rrc = rrc at *
        generalize ss[k].n = nn at *
        generalize ss[k].data = l at *
        generalize ss[k].dataV = dv at *
        obtain ⟨rn, rfl⟩ := Int.eq_ofNat_of_zero_le r0
        have i1 : (k : Int) < ss.length := by omega
        obtain ⟨av, cv, rfl, hlc, hm, _⟩ := hb.form
        have hl6 : l.length ≤ 1000000 := by omega
        clear hop hca hdat
        go_wp2
        go_quiet (fail)
        have kq : Keep wr (wr.drewN nq) := (Keep.refl _).drewN _
        replace hb := hb.keep kq
        replace kw := kw.trans kq
        replace c13 := kq.cell c13
        generalize wr.drewN nq = w2 at *
        go_wp2_with fail
        -- turned := Copy(data)
        refine (copy_c _ l w2 hb (by omega)).mono ?_
        rintro e w3 ⟨v1, rfl, ow1, k3⟩
        go_wp2_with fail
        -- RotateRight(turned, count)
        refine (rotRight_own w2.heap.size v1 l rn w3 hl6 (by omega) (by omega) ow1).mono ?_
        rintro e w4 ⟨rfl, ow4, g4⟩
        have k4 : Keep w2 w4 := k3.grown g4 (fun q hq => (ow1.lt q hq).1)
        clear ow1 g4
        go_wp2_with fail
        -- Right(data, count)
        refine (right_c _ l rn w4 (hb.keep k4) hl6 (by omega)).mono ?_
        rintro e w5 ⟨v2, rfl, ow2, k5⟩
        replace ow4 := ow4.keep k5
        go_wp2_with fail
        -- Same(turned, ..)
        refine (same_c _ _ _ _ w5 ow4.bs ow2.bs).mono ?_
        rintro e w6 ⟨rfl, k6⟩
        rw [decide_eq_true (right_same l rn)]
        replace ow4 := ow4.keep k6
        clear ow2
        go_wp2_with fail
        -- RotateLeft(turned, count)
        refine (rotLeft_own w2.heap.size v1 _ rn w6 (by rw [rl_length]; exact hl6) (by omega) (by omega) ow4).mono ?_
        rintro e w7 ⟨rfl, ow7, g7⟩
        have k7 : Keep w2 w7 := ((k4.trans k5).trans k6).grown g7 (fun q hq => (ow4.lt q hq).1)
        rw [back] at ow7
        clear ow4 g7
        go_wp2_with fail
        -- Same(turned, data)
        refine (same_c _ _ _ _ w7 ow7.bs (hb.keep k7)).mono ?_
        rintro e w8 ⟨rfl, k8⟩
        rw [decide_eq_true rfl]
        replace k8 := k7.trans k8
        replace hb := hb.keep k8
        replace c13 := k8.cell c13
        replace kw := kw.trans k8
        clear k3 k4 k5 k6 k7 k8 ow7
        by_cases hz : l.length = 0
        · have hz' : l = [] := List.eq_nil_of_length_eq_zero hz
          subst hz'
          clear hz hb
          go_wp2
          go_roundw
          case rel => exact ⟨k + 1, by omega, by go_num, kw⟩
          case measure => simp [intOf]; omega
        · have hz' : ((l.length : Int) == 0) = false := beq_eq_false_iff_ne.2 (by omega)
          have hz0 : ¬ (l.length : Int) = 0 := by omega
          obtain ⟨far, hfar⟩ : ∃ N, bits BinOp.xor IntKind.i64 (-1) nn = N := ⟨_, rfl⟩
          have hfb := bounds_i64 (wf_bits BinOp.xor IntKind.i64 (-1) nn)
          rw [hfar] at hfb
          have hfar2 : bits BinOp.xor IntKind.i64 (if IntKind.i64.signed = true then -1 else 9223372036854775807) nn = far := hfar
          obtain ⟨f0, f1⟩ := hfb
          obtain ⟨m1, m2, m3, m4⟩ := tmod_facts far l.length (by omega)
          obtain ⟨tm, htm⟩ : ∃ tm, far.tmod l.length = tm := ⟨_, rfl⟩
          rw [htm] at m1 m2 m3 m4
          have hm0 := Int.emod_nonneg far hz0
          have hm1 := Int.emod_lt_of_pos far (show (0 : Int) < l.length by omega)
          have hnear : -(far % (l.length : Int)) % (l.length : Int) = -far % (l.length : Int) := neg_mod far l.length
          have hsign : (tm < 0 ∧ tm + l.length = far % (l.length : Int)) ∨ (¬ tm < 0 ∧ tm = far % (l.length : Int)) := by
            by_cases hs : tm < 0
            · exact Or.inl ⟨hs, m3 hs⟩
            · exact Or.inr ⟨hs, m4 (by omega)⟩
          clear m3 m4
          obtain ⟨near, hne⟩ : ∃ near, far % (l.length : Int) = near := ⟨_, rfl⟩
          rw [hne] at hsign hm0 hm1 hnear
          have HN := Hid.mk hnear
          clear hnear hne
          have hsign' : (tm < 0 ∧ Hid (tm + l.length = near)) ∨ (¬ tm < 0 ∧ Hid (tm = near)) := hsign
          clear hsign
          rcases hsign' with ⟨s1, s2⟩ | ⟨s1, s2⟩
          all_goals
            go_wp2_with fail
            rw [s2.out]
            clear s1 s2 htm m1 m2 hfar hfar2
            -- a, b := Copy(data), Copy(data)
            refine (copy_c _ l w8 hb (by omega)).mono ?_
            rintro e w9 ⟨va, rfl, owa, k9⟩
            go_wp2_with fail
            refine (copy_c _ l w9 (hb.keep k9) (by omega)).mono ?_
            rintro e w10 ⟨vb, rfl, owb, k10⟩
            have hab : vb.ownBlock ≠ va.ownBlock ∨ vb.ownBlock = none := by
              cases hva : va.ownBlock with
              | none => cases vb.ownBlock <;> simp
              | some q =>
                left
                intro e
                have h1 := (owa.lt q hva).2
                have h2 := (owb.lt q e).1
                omega
            replace owa := owa.keep k10
            go_wp2_with fail
            -- RotateRight(a, far)
            refine (rotRight_own w8.heap.size va l far w10 hl6 f0 f1 owa).mono ?_
            rintro e w11 ⟨rfl, owa1, g11⟩
            have k11 : Keep w8 w11 := (k9.trans k10).grown g11 (fun q hq => (owa.lt q hq).1)
            have owb1 : Own w9.heap.size 5 w11 vb (l.map cb) := owb.kept g11 (by rcases hab with h | h; exact Or.inr h; exact Or.inl h)
            clear owa owb g11
            go_wp2_with fail
            -- RotateRight(b, near)
            refine (rotRight_own w9.heap.size vb l near w11 hl6 (by omega) (by omega) owb1).mono ?_
            rintro e w12 ⟨rfl, owb2, g12⟩
            have k12 : Keep w8 w12 := k11.grown g12 (fun q hq => by have := (owb1.lt q hq).1; have := k9.size; omega)
            have owa2 := owa1.kept g12 (by
              rcases hab with h | h
              · exact Or.inr (Ne.symm h)
              · rw [h]; cases va.ownBlock <;> simp)
            clear owa1 owb1 g12
            go_wp2_with fail
            -- Same(a, b)
            refine (same_c _ _ _ _ w12 owa2.bs owb2.bs).mono ?_
            rintro e w13 ⟨rfl, k13⟩
            rw [decide_eq_true (by rw [HN.out])]
            replace owa2 := owa2.keep k13
            go_wp2_with fail
            -- RotateLeft(a, far)
            refine (rotLeft_own w8.heap.size va _ far w13 (by rw [rl_length]; exact hl6) f0 f1 owa2).mono ?_
            rintro e w14 ⟨rfl, owa3, g14⟩
            have k14 : Keep w8 w14 := (k12.trans k13).grown g14 (fun q hq => (owa2.lt q hq).1)
            rw [back] at owa3
            go_wp2_with fail
            -- Same(a, data)
            refine (same_c _ _ _ _ w14 owa3.bs (hb.keep k14)).mono ?_
            rintro e w15 ⟨rfl, k15⟩
            rw [decide_eq_true rfl]
            go_wp2
            go_roundw
            case rel => exact ⟨k + 1, by omega, by go_num, kw.trans (k14.trans k15)⟩
            case measure => simp [intOf]; omega
      · have i1 : ¬ (k : Int) < ss.length := by omega
        go_wp2
        go_ret
        exact ⟨rfl, kw⟩
end Go.Proofs.Qxb6500771a
