/- The law PBKDF2Formula: its walk. -/
import Derived.Test.Qxb6500769aPbC
import Derived.Test.Qxb6500769aSmall
import Derived.Deep.CutRange
namespace Go.Proofs.Qxb6500769a
open Go.RowKit Go.Qm
set_option linter.unusedVariables false
set_option linter.unusedSimpArgs false
attribute [local go_sem ↓] Go.wp_at_zero Go.wp_at_succ

theorem sizeZ_c (h : Int) (w : World) (hn : ¬ (1 ≤ h ∧ h ≤ 5)) : Calls Try.prog 25 #[.int .i64 h] w fun e w' => e = .returned (.int .i64 0) ∧ Keep w w' := by
  have y1 : (h == 1) = false := by simp; omega
  have y2 : (h == 2) = false := by simp; omega
  have y3 : (h == 3) = false := by simp; omega
  have y4 : (h == 4) = false := by simp; omega
  have y5 : (h == 5) = false := by simp; omega
  clear hn
  go_enter Try.func25, Try.ntmps25
  go_wp2
  go_ret
  exact ⟨rfl, Keep.refl _⟩
theorem sizeQ_c (h : Nat) (w : World) (h1 : 1 ≤ h) (h5 : h ≤ 5) : Calls Try.prog 25 #[.int .i64 h] w fun e w' => e = .returned (.int .i64 (hsz h)) ∧ w' = w := by
  go_enter Try.func25, Try.ntmps25
  match h, h1, h5 with
  | 1, _, _ => go_wp2; go_ret; exact ⟨rfl, rfl⟩
  | 2, _, _ => go_wp2; go_ret; exact ⟨rfl, rfl⟩
  | 3, _, _ => go_wp2; go_ret; exact ⟨rfl, rfl⟩
  | 4, _, _ => go_wp2; go_ret; exact ⟨rfl, rfl⟩
  | 5, _, _ => go_wp2; go_ret; exact ⟨rfl, rfl⟩
theorem pbCount0_c (h : Nat) (dk : Int) (kv sv : Value) (p : List UInt8) (w : World) (hk : Bs w kv p) (hkl : p.length ≤ 400000) (h1 : 1 ≤ h) (h5 : h ≤ 5) :
    Calls Try.prog 26 #[.int .i64 h, kv, sv, .int .u32 0, .int .i64 dk] w fun e w' => ∃ v', e = .returned (.tuple #[v', .int .i64 7]) ∧ Keep w w' :=
  pbCount_c h 0 dk kv sv p [] w hk hkl h1 h5 (Or.inl rfl)
theorem pbCount1_c (h : Nat) (dk : Int) (kv sv : Value) (p : List UInt8) (w : World) (hk : Bs w kv p) (hkl : p.length ≤ 400000) (h1 : 1 ≤ h) (h5 : h ≤ 5) :
    Calls Try.prog 26 #[.int .i64 h, kv, sv, .int .u32 65537, .int .i64 dk] w fun e w' => ∃ v', e = .returned (.tuple #[v', .int .i64 7]) ∧ Keep w w' :=
  pbCount_c h 65537 dk kv sv p [] w hk hkl h1 h5 (Or.inr (by omega))
set_option maxRecDepth 2000 in
set_option maxHeartbeats 8000000 in
theorem pbkdf2Formula_c (v : Value) (ss : List OpR) (w : World) (h : Script w v ss) :
    Calls Try.prog 6 #[v] w fun e w' => e = .returned (.bool true) ∧ Keep w w' := by
  have hS := h
  obtain ⟨a, c, rfl, hac, hcm, hca⟩ := h
  unfold maxLen at hcm
  go_enter Try.func6, Try.ntmps6
  go_wp2_with fail
  refine (small_c _ ss w hS).mono ?_
  rintro e w1 ⟨⟨b, rfl, hsm⟩, kw1⟩
  cases b with
  | false =>
    go_wp2
    go_ret
    exact ⟨rfl, kw1⟩
  | true =>
    obtain ⟨hn, hdat⟩ := hsm rfl
    clear hsm
    go_wp2_with fail
    go_loopw [3] (fun iv wr => ∃ k : Nat, k ≤ ss.length ∧ iv = .int .i64 k ∧ Keep w wr) (fun i _ => ss.length - (intOf i).toNat)
    case atStart => exact ⟨0, by omega, rfl, kw1⟩
    case round =>
      obtain ⟨k, hk, rfl, kw⟩ := hrel
      by_cases hlt : k < ss.length
      · obtain ⟨b, o, rfl, hop⟩ := hca k hlt
        replace hop := hop.keep kw
        have hsmall := hdat _ (List.getElem_mem hlt)
        unfold OpSmall at hsmall
        have i1 : (k : Int) < ss.length := by omega
        obtain ⟨c0, c1, c2, c3, c4, c5, c6, c7, c8, c9, c10, r0, r1, r2, b3, -, b4, -, b5, -, b6, -, b7, -, r8, r9, r10⟩ := hop
        obtain ⟨a3, d3, e3, h3a, h3c, -⟩ := b3.form
        obtain ⟨a4, d4, e4, -⟩ := b4.form
        obtain ⟨a5, d5, e5, -⟩ := b5.form
        obtain ⟨a6, d6, e6, h6a, h6c, -⟩ := b6.form
        obtain ⟨a7, d7, e7, -⟩ := b7.form
        rw [e3] at c3 b3
        rw [e4] at c4
        rw [e5] at c5
        rw [e6] at c6 b6
        rw [e7] at c7
        have hkl : ss[k].key.length ≤ 65536 := by omega
        have hsl : ss[k].label.length ≤ 65536 := by omega
        obtain ⟨cnt, hcnt⟩ : ∃ cnt : Nat, ss[k].count = (cnt : Int) := ⟨ss[k].count.toNat, by omega⟩
        rw [hcnt] at c8 r8
        clear e3 e4 e5 e6 e7 hsmall hca hdat hS kw1 r2 r10 b4 b5 b7 hcnt
        generalize ss[k] = s at *
        generalize s.key = key at *
        generalize s.label = salt at *
        generalize s.kind = kind at *
        generalize s.hash = hash at *
        generalize s.len = dk at *
        by_cases hk12 : kind = 12
        · have y0 : (kind != 12) = false := by simp [hk12]
          clear hk12
          have C1 : (wr.alloc (.cells #[.int .i64 kind, .int .i64 hash, .int .i64 s.cipher, .slice a3 key.length d3, .slice a4 s.iv.length d4, .slice a5 s.data.length d5, .slice a6 salt.length d6, .slice a7 s.context.length d7, .int .u32 cnt, .int .i64 dk, .int .i64 s.dst] 30)).heap[wr.heap.size]? = some (.cells #[.int .i64 kind, .int .i64 hash, .int .i64 s.cipher, .slice a3 key.length d3, .slice a4 s.iv.length d4, .slice a5 s.data.length d5, .slice a6 salt.length d6, .slice a7 s.context.length d7, .int .u32 cnt, .int .i64 dk, .int .i64 s.dst] 30) := heap_alloc_new wr _
          have KA := (Keep.refl wr).alloc (.cells #[.int .i64 kind, .int .i64 hash, .int .i64 s.cipher, .slice a3 key.length d3, .slice a4 s.iv.length d4, .slice a5 s.data.length d5, .slice a6 salt.length d6, .slice a7 s.context.length d7, .int .u32 cnt, .int .i64 dk, .int .i64 s.dst] 30)
          by_cases hh : 1 ≤ hash ∧ hash ≤ 5
          · obtain ⟨H, rfl⟩ : ∃ H : Nat, hash = (H : Int) := ⟨hash.toNat, by omega⟩
            have h1 : 1 ≤ H := by omega
            have h5 : H ≤ 5 := by omega
            have hsb := hsz_le H
            clear hh
            go_wp2_with fail
            refine (size_c H _ h1 h5).mono ?_
            rintro e w2 ⟨rfl, k2⟩
            have B2 := k2.heap C1
            have ALL : ∀ W : World, Keep w2 W → W.cell? ⟨wr.heap.size, 1, none⟩ = some (.int .i64 H) ∧ W.cell? ⟨wr.heap.size, 3, none⟩ = some (.slice a3 key.length d3) ∧ W.cell? ⟨wr.heap.size, 6, none⟩ = some (.slice a6 salt.length d6) ∧ W.cell? ⟨wr.heap.size, 8, none⟩ = some (.int .u32 cnt) ∧ W.cell? ⟨wr.heap.size, 9, none⟩ = some (.int .i64 dk) := fun W K => by
              have B := K.heap B2
              refine ⟨?_, ?_, ?_, ?_, ?_⟩ <;> rw [cell_of_row _ _ _ _ _ _ B] <;> rfl
            have X3 := b3.keep (KA.trans k2)
            have X6 := b6.keep (KA.trans k2)
            have K2 := kw.trans (KA.trans k2)
            clear B2 C1 KA k2 c0 c1 c2 c3 c4 c5 c6 c7 c8 c9 c10 b3 b6
            generalize wr.heap.size = g4 at *
            obtain ⟨z1, z3, z6, z8, z9⟩ := ALL w2 (Keep.refl _)
            have yz : ((hsz H : Int) == 0) = false := by simp; omega
            go_wp2_with fail
            refine (pbCount0_c H dk _ _ key _ X3 (by omega) h1 h5).mono ?_
            rintro e w3 ⟨v3, rfl, k3⟩
            clear z1 z3 z6 z8 z9
            obtain ⟨z1, z3, z6, z8, z9⟩ := ALL w3 k3
            have hor : bits .or .u32 (cnt : Int) 65536 = ((cnt ||| 65536 : Nat) : Int) := bits_or_u32 cnt 65536 (by omega) (by omega)
            have hov : 65536 ≤ cnt ||| 65536 := Nat.right_le_or
            generalize cnt ||| 65536 = ov at *
            go_upto_if 49 with fail
            go_cut [7] from 12 to 121 (fun vv wx => ∃ o2 : Nat, vv = .int .u32 o2 ∧ 65536 < o2 ∧ wx = w3)
            case first =>
              by_cases ho : ov = 65536
              · have y7 : ((ov : Int) == 65536) = true := by simp; omega
                clear ho
                go_wp2_with fail
                go_meet
                case rel => exact ⟨65537, rfl, by omega, rfl⟩
              · have y7 : ((ov : Int) == 65536) = false := by simp; omega
                go_wp2_with fail
                go_meet
                case rel => exact ⟨ov, rfl, by omega, rfl⟩
            case rest =>
              obtain ⟨o2, rfl, ho2, rfl⟩ := hcut
              clear hor hov
              go_wp2_with fail
              refine (pbCount_c H o2 dk _ _ key [] _ (X3.keep k3) (by omega) h1 h5 (Or.inr ho2)).mono ?_
              rintro e w4 ⟨v4, rfl, k4⟩
              have K4 := k3.trans k4
              clear z1 z3 z6 z8 z9
              obtain ⟨z1, z3, z6, z8, z9⟩ := ALL w4 K4
              by_cases hcb : cnt = 0 ∨ 65536 < cnt
              · go_wp2_with fail
                refine (pbCount_c H cnt dk _ _ key [] _ (X3.keep K4) (by omega) h1 h5 hcb).mono ?_
                rintro e w5 ⟨v5, rfl, k5⟩
                have K5 := K4.trans k5
                clear z1 z3 z6 z8 z9
                obtain ⟨z1, z3, z6, z8, z9⟩ := ALL w5 K5
                rcases hcb with hc0 | hcb
                · have y8 : (cnt : Int) < 1 := by omega
                  clear hc0
                  go_wp2_with fail
                  go_roundw
                  case rel => exact ⟨k + 1, by omega, by go_num, K2.trans K5⟩
                  case measure => simp [intOf]; omega
                · have y8 : ¬ (cnt : Int) < 1 := by omega
                  have y9 : (cnt : Int) > 65536 := by omega
                  go_wp2_with fail
                  go_roundw
                  case rel => exact ⟨k + 1, by omega, by go_num, K2.trans K5⟩
                  case measure => simp [intOf]; omega
              · have y8 : ¬ (cnt : Int) < 1 := by omega
                have y9 : ¬ (cnt : Int) > 65536 := by omega
                have hc1 : 1 ≤ cnt := by omega
                have hc2 : cnt ≤ 65536 := by omega
                have SZC := fun W => size_c H W h1 h5
                have hd9 := r9.2
                by_cases hlo : dk < 1
                · go_wp2_with fail
                  refine (pbLen_c H cnt dk _ _ key [] _ (X3.keep K4) (by omega) h1 h5 hc1 hc2 (Or.inl hlo)).mono ?_
                  rintro e w5 ⟨v5, rfl, k5⟩
                  have K5 := K4.trans k5
                  clear z1 z3 z6 z8 z9
                  obtain ⟨z1, z3, z6, z8, z9⟩ := ALL w5 K5
                  go_wp2_with fail
                  go_quiet (fail)
                  go_wp2_with fail
                  go_roundw
                  case rel => exact ⟨k + 1, by omega, by go_num, K2.trans (K5.drewN nq)⟩
                  case measure => simp [intOf]; omega
                · have hdl : decide (dk < 1) = false := decide_eq_false hlo
                  have x3 : IntKind.i64.wrap (4294967295 * (hsz H : Int)) = 4294967295 * (hsz H : Int) := by rw [IntKind.wrap_i64]; omega
                  by_cases hhi : dk > 4294967295 * (hsz H : Int)
                  · go_wp2_with fail
                    refine (pbLen_c H cnt dk _ _ key [] _ (X3.keep K4) (by omega) h1 h5 hc1 hc2 (Or.inr ⟨by omega, hd9⟩)).mono ?_
                    rintro e w5 ⟨v5, rfl, k5⟩
                    have K5 := K4.trans k5
                    clear z1 z3 z6 z8 z9
                    obtain ⟨z1, z3, z6, z8, z9⟩ := ALL w5 K5
                    go_wp2_with fail
                    go_quiet ((go_at_call 25; exact Calls.quiet_of_same (sizeQ_c H _ h1 h5)))
                    go_wp2_with fail
                    go_roundw
                    case rel => exact ⟨k + 1, by omega, by go_num, K2.trans (K5.drewN nq)⟩
                    case measure => simp [intOf]; omega
                  · obtain ⟨D, rfl⟩ : ∃ D : Nat, dk = (D : Int) := ⟨dk.toNat, by omega⟩
                    have hD1 : 1 ≤ D := by omega
                    have hD2 : D ≤ 4294967295 * hsz H := by omega
                    go_wp2_with fail
                    refine (pbk_c H cnt D _ _ key salt _ (X3.keep K4) (X6.keep K4) (by omega) (by omega) h1 h5 hc1 hc2 hD1 hD2).mono ?_
                    rintro e w5 ⟨v5, rfl, b5, k5⟩
                    have K5 := K4.trans k5
                    clear z1 z3 z6 z8 z9
                    obtain ⟨z1, z3, z6, z8, z9⟩ := ALL w5 K5
                    go_wp2_with fail
                    go_quiet ((go_at_call 25; exact Calls.quiet_of_same (sizeQ_c H _ h1 h5)))
                    have q6 : Keep w5 (w5.drewN nq) := (Keep.refl w5).drewN nq
                    have K6 := K5.trans q6
                    generalize w5.drewN nq = w6 at *
                    clear z1 z3 z6 z8 z9
                    obtain ⟨z1, z3, z6, z8, z9⟩ := ALL w6 K6
                    have x5 : IntKind.i64.wrap (cnt : Int) = cnt := by rw [IntKind.wrap_i64]; omega
                    go_wp2_with fail
                    refine (mpb_c H _ _ key salt cnt D _ (X3.keep K6) (X6.keep K6) (by omega) (by omega) h1 h5 hc1 hc2 hD1 (by omega)).mono ?_
                    rintro e w7 ⟨v7, rfl, b7, k7⟩
                    go_wp2_with fail
                    refine (same_c _ _ _ _ _ (b5.keep (q6.trans k7)) b7).mono ?_
                    rintro e w8 ⟨rfl, k8⟩
                    rw [decide_eq_true rfl]
                    go_wp2_with fail
                    go_roundw
                    case rel => exact ⟨k + 1, by omega, by go_num, K2.trans (K6.trans (k7.trans k8))⟩
                    case measure => simp [intOf]; omega
          · go_wp2_with fail
            refine (sizeZ_c hash _ hh).mono ?_
            rintro e w2 ⟨rfl, k2⟩
            clear c0 c1 c2 c3 c4 c5 c6 c7 c8 c9 c10
            go_wp2_with fail
            go_roundw
            case rel => exact ⟨k + 1, by omega, by go_num, kw.trans (KA.trans k2)⟩
            case measure => simp [intOf]; omega
        · have y0 : (kind != 12) = true := by simpa using hk12
          clear hk12
          go_wp2_with fail
          go_roundw
          case rel => exact ⟨k + 1, by omega, by go_num, kw.alloc _⟩
          case measure => simp [intOf]; omega
      · have hlt' : ¬ (k : Int) < ss.length := by omega
        go_wp2
        go_ret
        exact ⟨rfl, kw⟩
end Go.Proofs.Qxb6500769a
