/- The law HMACFormula: its walk. -/
import Derived.Test.Qxb6500769aHa
import Derived.Test.Qxb6500769aSmall
namespace Go.Proofs.Qxb6500769a
open Go.RowKit Go.Qm
set_option linter.unusedVariables false
set_option linter.unusedSimpArgs false
attribute [local go_sem ↓] Go.wp_at_zero Go.wp_at_succ

theorem placeN_c (v : Int) (n : Nat) (w : World) (hn : n ≤ 1000000) (hv : -9223372036854775808 ≤ v ∧ v ≤ 9223372036854775807) : ∃ q : Nat, q ≤ n ∧ Calls Try.prog 8 #[.int .i64 v, .int .i64 n] w fun e w' => e = .returned (.int .i64 q) ∧ Keep w w' := by
  have h1 := Int.emod_nonneg v (show ((n : Int) + 1) ≠ 0 by omega)
  have h2 := Int.emod_lt_of_pos v (show (0 : Int) < (n : Int) + 1 by omega)
  refine ⟨(v % ((n : Int) + 1)).toNat, by omega, ?_⟩
  have h := place_c v n w (by omega) (by omega) hv.1 hv.2
  rw [show (((v % ((n : Int) + 1)).toNat : Nat) : Int) = v % ((n : Int) + 1) by omega]
  exact h
set_option maxRecDepth 1400 in
set_option maxHeartbeats 4000000 in
theorem hmacFormula_c (v : Value) (ss : List OpR) (w : World) (h : Script w v ss) :
    Calls Try.prog 3 #[v] w fun e w' => e = .returned (.bool true) ∧ Keep w w' := by
  have hS := h
  obtain ⟨a, c, rfl, hac, hcm, hca⟩ := h
  unfold maxLen at hcm
  go_enter Try.func3, Try.ntmps3
  go_wp2_with fail
  refine (small_c _ ss w hS).mono ?_
  rintro e w1 ⟨⟨b, rfl, hsm⟩, kw1⟩
  cases b with
  | false =>
    go_wp2
    go_ret
    exact ⟨rfl, kw1⟩
  | true =>
    obtain ⟨hn, hdat⟩ := hsm rfl
    clear hsm
    go_wp2_with fail
    go_loopw [3] (fun iv wr => ∃ k : Nat, k ≤ ss.length ∧ iv = .int .i64 k ∧ Keep w wr) (fun i _ => ss.length - (intOf i).toNat)
    case atStart => exact ⟨0, by omega, rfl, kw1⟩
    case round =>
      obtain ⟨k, hk, rfl, kw⟩ := hrel
      by_cases hlt : k < ss.length
      · obtain ⟨b, o, rfl, hop⟩ := hca k hlt
        replace hop := hop.keep kw
        have hsmall := hdat _ (List.getElem_mem hlt)
        unfold OpSmall at hsmall
        have i1 : (k : Int) < ss.length := by omega
        obtain ⟨c0, c1, c2, c3, c4, c5, c6, c7, c8, c9, c10, r0, r1, r2, b3, -, b4, -, b5, -, b6, -, b7, -, r8, r9, r10⟩ := hop
        obtain ⟨a3, d3, e3, h3a, h3c, -⟩ := b3.form
        obtain ⟨a4, d4, e4, -⟩ := b4.form
        obtain ⟨a5, d5, e5, h5a, h5c, -⟩ := b5.form
        obtain ⟨a6, d6, e6, -⟩ := b6.form
        obtain ⟨a7, d7, e7, -⟩ := b7.form
        rw [e3] at c3 b3
        rw [e4] at c4
        rw [e5] at c5 b5
        rw [e6] at c6
        rw [e7] at c7
        have hkl : ss[k].key.length ≤ 65536 := by omega
        have hdl : ss[k].data.length ≤ 65536 := by omega
        clear e3 e4 e5 e6 e7 hsmall hca hdat hS kw1 r1 r2 r8 r10 b4 b6 b7
        generalize ss[k] = s at *
        generalize s.key = key at *
        generalize s.data = data at *
        generalize s.kind = kind at *
        by_cases hk0 : kind < 0
        · go_wp2_with fail
          go_roundw
          case rel => exact ⟨k + 1, by omega, by go_num, kw.alloc _⟩
          case measure => simp [intOf]; omega
        · by_cases hk3 : kind > 3
          · go_wp2_with fail
            go_roundw
            case rel => exact ⟨k + 1, by omega, by go_num, kw.alloc _⟩
            case measure => simp [intOf]; omega
          · obtain ⟨q, hq, PL⟩ : ∃ q : Nat, q ≤ data.length ∧ ∀ W, Calls Try.prog 8 #[.int .i64 s.len, .int .i64 data.length] W fun e w' => e = .returned (.int .i64 q) ∧ Keep W w' := by
              obtain ⟨q, hq, -⟩ := placeN_c s.len data.length w (by omega) r9
              refine ⟨(s.len % ((data.length : Int) + 1)).toNat, ?_, fun W => ?_⟩
              · have := Int.emod_lt_of_pos s.len (show (0 : Int) < (data.length : Int) + 1 by omega); omega
              · have h1 := Int.emod_nonneg s.len (show ((data.length : Int) + 1) ≠ 0 by omega)
                rw [show (((s.len % ((data.length : Int) + 1)).toNat : Nat) : Int) = s.len % ((data.length : Int) + 1) by omega]
                exact place_c s.len data.length W (by omega) (by omega) r9.1 r9.2
            have C3 : (wr.alloc (.cells #[.int .i64 kind, .int .i64 s.hash, .int .i64 s.cipher, .slice a3 key.length d3, .slice a4 s.iv.length d4, .slice a5 data.length d5, .slice a6 s.label.length d6, .slice a7 s.context.length d7, .int .u32 s.count, .int .i64 s.len, .int .i64 s.dst] 30)).cell? ⟨wr.heap.size, 3, none⟩ = some (.slice a3 key.length d3) := by rw [cell_of_row _ _ _ _ _ _ (heap_alloc_new wr _)]; rfl
            have C5 : (wr.alloc (.cells #[.int .i64 kind, .int .i64 s.hash, .int .i64 s.cipher, .slice a3 key.length d3, .slice a4 s.iv.length d4, .slice a5 data.length d5, .slice a6 s.label.length d6, .slice a7 s.context.length d7, .int .u32 s.count, .int .i64 s.len, .int .i64 s.dst] 30)).cell? ⟨wr.heap.size, 5, none⟩ = some (.slice a5 data.length d5) := by rw [cell_of_row _ _ _ _ _ _ (heap_alloc_new wr _)]; rfl
            have KA := (Keep.refl wr).alloc (.cells #[.int .i64 kind, .int .i64 s.hash, .int .i64 s.cipher, .slice a3 key.length d3, .slice a4 s.iv.length d4, .slice a5 data.length d5, .slice a6 s.label.length d6, .slice a7 s.context.length d7, .int .u32 s.count, .int .i64 s.len, .int .i64 s.dst] 30)
            go_wp2_with fail
            refine (PL _).mono ?_
            rintro e w2 ⟨rfl, k2⟩
            replace C3 := k2.cell C3
            replace C5 := k2.cell C5
            have B3 := b3.keep (KA.trans k2)
            have B5 := b5.keep (KA.trans k2)
            have K2 := kw.trans (KA.trans k2)
            clear KA k2 PL c0 c1 c2 c3 c4 c5 c6 c7 c8 c9 c10 b3 b5
            obtain ⟨g4, hg4⟩ : ∃ g, g = wr.heap.size := ⟨_, rfl⟩
            rw [← hg4] at C3 C5
            go_wp2_with fail
            rw [← hg4]
            clear hg4
            go_loopw [6] (fun hv wx => ∃ hh : Nat, 1 ≤ hh ∧ hh ≤ 6 ∧ hv = .int .i64 hh ∧ Keep w2 wx) (fun hv _ => 6 - (intOf hv).toNat)
            case atStart => exact ⟨1, by omega, by omega, rfl, Keep.refl _⟩
            case round =>
              obtain ⟨hh, hh1, hh6, rfl, kx⟩ := hrel
              by_cases hle : hh ≤ 5
              · have j1 : (hh : Int) ≤ 5 := by omega
                have hbb := bsz_le hh
                have BSC := fun W => blockSize_c hh W hh1 hle
                generalize bsz hh = bb at *
                go_wp2_with fail
                refine (BSC _).mono ?_
                rintro e w3 ⟨rfl, k3⟩
                have K3 := kx.trans k3
                have D3 := K3.cell C3
                have D5 := K3.cell C5
                have X3 := B3.keep K3
                have X5 := B5.keep K3
                obtain ⟨n1, hn1⟩ : ∃ n, n = bb - 1 := ⟨_, rfl⟩
                obtain ⟨n2, hn2⟩ : ∃ n, n = bb + 1 := ⟨_, rfl⟩
                obtain ⟨n3, hn3⟩ : ∃ n, n = n2 + key.length := ⟨_, rfl⟩
                have f1 : IntKind.i64.wrap ((bb : Int) - 1) = (n1 : Int) := by rw [IntKind.wrap_i64] <;> omega
                have f2 : IntKind.i64.wrap ((bb : Int) + 1) = (n2 : Int) := by rw [IntKind.wrap_i64] <;> omega
                have f3 : IntKind.i64.wrap ((n2 : Int) + (key.length : Int)) = (n3 : Int) := by rw [IntKind.wrap_i64] <;> omega
                have m1 : n1 ≤ 128 := by omega
                have m3 : n3 ≤ 70000 := by omega
                clear hn1 hn2 hn3
                go_wp2_with fail
                go_region_held3 (fun w' => w'.cell? ⟨g4, 3, none⟩ = some (.slice a3 key.length d3) ∧ w'.cell? ⟨g4, 5, none⟩ = some (.slice a5 data.length d5))
                  (first | exact ⟨Q7.cell D3, Q7.cell D5⟩ | exact ⟨Q6.cell D3, Q6.cell D5⟩ | exact ⟨Q5.cell D3, Q5.cell D5⟩ | exact ⟨Q4.cell D3, Q4.cell D5⟩ | exact ⟨Q3.cell D3, Q3.cell D5⟩ | exact ⟨Q2.cell D3, Q2.cell D5⟩ | exact ⟨Q1.cell D3, Q1.cell D5⟩ | exact ⟨D3, D5⟩)
                  (first
                  | (go_at_call_of 10 (Value.slice a3 key.length d3); refine (hmacAgrees_c hh _ _ key data q w3.drew X3 X5 (by omega) (by omega) hh1 hle hq).mono ?_; rintro e y1 ⟨rfl, q1⟩; have Q1 : Keep w3 y1 := (Keep.refl w3).drew.trans q1)
                  | (go_at_call_of 11 (Value.int IntKind.i64 (n1 : Int)); refine (stretch_c _ key n1 _ (X3.keep Q1) (by omega) (by omega)).mono ?_; rintro e y2 ⟨u1, rfl, o1, q2⟩; have Q2 := Q1.trans q2; have L1 : (stre key n1).length ≤ 500000 := by rw [stre_length]; omega)
                  | (go_at_call_of 10 u1; refine (hmacAgrees_c hh _ _ (stre key n1) data q _ o1.bs (X5.keep Q2) L1 (by omega) hh1 hle hq).mono ?_; rintro e y3 ⟨rfl, q3⟩; have Q3 := Q2.trans q3)
                  | (go_at_call_of 11 (Value.int IntKind.i64 (bb : Int)); refine (stretch_c _ key bb _ (X3.keep Q3) (by omega) (by omega)).mono ?_; rintro e y4 ⟨u2, rfl, o2, q4⟩; have Q4 := Q3.trans q4; have L2 : (stre key bb).length ≤ 500000 := by rw [stre_length]; omega)
                  | (go_at_call_of 10 u2; refine (hmacAgrees_c hh _ _ (stre key bb) data q _ o2.bs (X5.keep Q4) L2 (by omega) hh1 hle hq).mono ?_; rintro e y5 ⟨rfl, q5⟩; have Q5 := Q4.trans q5)
                  | (go_at_call_of 11 (Value.int IntKind.i64 (n3 : Int)); refine (stretch_c _ key n3 _ (X3.keep Q5) (by omega) (by omega)).mono ?_; rintro e y6 ⟨u3, rfl, o3, q6⟩; have Q6 := Q5.trans q6; have L3 : (stre key n3).length ≤ 500000 := by rw [stre_length]; omega)
                  | (go_at_call_of 10 u3; refine (hmacAgrees_c hh _ _ (stre key n3) data q _ o3.bs (X5.keep Q6) L3 (by omega) hh1 hle hq).mono ?_; rintro e y7 ⟨rfl, q7⟩; have Q7 := Q6.trans q7))
                all_goals
                  go_wp2_with fail
                  go_roundw
                  case rel => exact ⟨hh + 1, by omega, by omega, by go_num, K3.trans Q7⟩
                  case measure => simp [intOf]; omega
              · have j1 : ¬ (hh : Int) ≤ 5 := by omega
                go_wp2_with fail
                go_roundw
                case rel => exact ⟨k + 1, by omega, by go_num, K2.trans kx⟩
                case measure => simp [intOf]; omega
      · have hlt' : ¬ (k : Int) < ss.length := by omega
        go_wp2
        go_ret
        exact ⟨rfl, kw⟩
end Go.Proofs.Qxb6500769a
