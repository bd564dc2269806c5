/- framem: NFold, DR. -/
import Derived.Test.Qxb6500771aGreatFc
import Derived.Deep.CutRange
import Derived.Deep.LoopGhost
namespace Go.Proofs.Qxb6500771aGreat
open Go.RowKit Go.Qm
set_option linter.unusedVariables false
set_option linter.unusedSimpArgs false
attribute [local go_sem ↓] Go.wp_at_zero Go.wp_at_succ
def pcK (s : List UInt8) : Nat → List UInt8
  | 0 => s
  | k + 1 => rN (pcK s k) 13
def lgK (s : List UInt8) : Nat → List UInt8
  | 0 => []
  | k + 1 => lgK s k ++ pcK s k
theorem pcK_length (s : List UInt8) : ∀ k, (pcK s k).length = s.length
  | 0 => rfl
  | k + 1 => by rw [pcK, rN_length, pcK_length s k]
theorem lgK_length (s : List UInt8) : ∀ k, (lgK s k).length = s.length * k
  | 0 => rfl
  | k + 1 => by rw [lgK, List.length_append, lgK_length s k, pcK_length, Nat.mul_succ]
def nfK (s : List UInt8) : Nat → List UInt8
  | 0 => List.replicate 16 0
  | k + 1 => addF (nfK s k) (((lgK s 16).drop (16 * k)).take 16) 16
theorem nfK_length (s : List UInt8) : ∀ k, (nfK s k).length = 16
  | 0 => by simp [nfK]
  | k + 1 => addF_length _ _ _
set_option maxRecDepth 4000 in
set_option maxHeartbeats 4000000 in
theorem nfold_c (v : Value) (s : List UInt8) (w : World) (h : Bs w v s) (hl : s.length = 5) : Calls Tryz.prog 99 #[v, .int .i64 16] w fun e w' => ∃ v', e = .returned v' ∧ Own w.heap.size 5 w' v' ((nfK s 5).map cb) ∧ Keep w w' := by
  obtain ⟨a, c, rfl, hac, hcm, -⟩ := h.form
  unfold maxLen at hcm
  have HS := Hid.mk h
  have HL := Hid.mk hl
  rw [hl] at HS hac ⊢
  obtain ⟨W, hW⟩ : ∃ W, W = w.alloc (.cells #[] 5) := ⟨_, rfl⟩
  have kW : Keep w W := by rw [hW]; exact (Keep.refl w).alloc _
  have o0 : Own w.heap.size 5 W (.slice (some ⟨w.heap.size, 0, none⟩) 0 0) (([] : List UInt8).map cb) := by rw [hW]; exact Own.lit [] (Nat.le_refl _) (by simp)
  have CP := Hid.mk (copy_c _ s W (HS.out.keep kW) (by omega))
  have HO0 := Hid.mk o0
  have HKW := Hid.mk kW
  clear h hl o0 kW
  go_enter Tryz.func99, Tryz.ntmps99
  go_upto_region 2 with fail
  rw [← hW]
  clear hW
  go_wp2_with fail
  refine CP.out.mono ?_
  rintro e w1 ⟨v1, rfl, o1, k1⟩
  have HO1 := Hid.mk (o1.mono HKW.out.size)
  have HK1 := Hid.mk (HKW.out.trans k1)
  have HL1 := Hid.mk (HO0.out.keep k1)
  clear o1 k1
  go_wp2_with fail
  go_loopg [5, 6] 16 (fun gk lv pv wr => ∃ (k : Nat) (lv' pv' : Value), k + gk = 16 ∧ lv = lv' ∧ pv = pv' ∧ Own w.heap.size 5 wr lv' ((lgK s k).map cb) ∧ Own w.heap.size 5 wr pv' ((pcK s k).map cb) ∧ Keep w wr)
  case atStart => exact ⟨0, _, _, by omega, rfl, rfl, HL1.out, HO1.out, HK1.out⟩
  case round =>
    obtain ⟨k, lv, pv, hk, rfl, rfl, ol, op, kw⟩ := hrel
    have HKK := Hid.mk hk
    have HOL := Hid.mk ol
    have HOP := Hid.mk op
    have HKWr := Hid.mk kw
    obtain ⟨la, lc, hlv, -, -, -⟩ := ol.bs.form
    obtain ⟨qa, qc, hpv, -, -, -⟩ := op.bs.form
    rw [lgK_length, HL.out] at hlv
    rw [pcK_length, HL.out] at hpv
    clear hk ol op kw
    by_cases hlt : k < 16
    · have i1 : ((5 * k : Nat) : Int) < 80 := by omega
      have JC := Hid.mk (join_c _ _ (lgK s k) (pcK s k) wr HOL.out.bs HOP.out.bs (by rw [lgK_length, pcK_length, HL.out]; omega))
      have HLS : Hid (lgK s (k + 1) = lgK s k ++ pcK s k) := Hid.mk rfl
      subst hlv hpv
      generalize hq : 5 * k = q at *
      clear hq
      go_wp2_with fail
      refine (lcm_c _).mono ?_
      rintro e y ⟨rfl, hy⟩
      have hy2 := hy.symm
      clear hy
      subst hy2
      go_wp2_with fail
      refine JC.out.mono ?_
      rintro e w2 ⟨v2, rfl, o2, k2⟩
      have RC := Hid.mk (right_c _ (pcK s k) 13 w2 (HOP.out.bs.keep k2) (by rw [pcK_length, HL.out]; omega) (by rw [pcK_length, HL.out]; omega) (by omega))
      have HO2 := Hid.mk (o2.mono HKWr.out.size)
      have HK2 := Hid.mk (HKWr.out.trans k2)
      obtain ⟨ja, jc, hj, -, -, -⟩ := o2.bs.form
      rw [List.length_append] at hj
      subst hj
      clear o2 k2
      go_wp2_with fail
      refine RC.out.mono ?_
      rintro e w3 ⟨v3, rfl, o3, k3⟩
      have HO3 := Hid.mk (o3.mono HK2.out.size)
      have HK3 := Hid.mk (HK2.out.trans k3)
      have HO23 := Hid.mk (HO2.out.keep k3)
      clear o3 k3
      go_wp2_with fail
      go_roundg (gk - 1)
      case measure => have := HKK.out; omega
      case rel => exact ⟨k + 1, _, _, by have := HKK.out; omega, rfl, rfl, HO23.out, HO3.out, HK3.out⟩
    · obtain rfl : k = 16 := by have := HKK.out; omega
      have R16 := Hid.mk (repeat_c 0 16 wr (by omega))
      subst hlv hpv
      go_wp2_with fail
      refine (lcm_c _).mono ?_
      rintro e y ⟨rfl, hy⟩
      have hy2 := hy.symm
      clear hy
      subst hy2
      go_wp2_with fail
      refine R16.out.mono ?_
      rintro e w2 ⟨v2, rfl, o2, k2⟩
      have HO2 : Hid (Own w.heap.size 5 w2 v2 ((nfK s 0).map cb)) := Hid.mk (o2.mono HKWr.out.size)
      have HK2 := Hid.mk (HKWr.out.trans k2)
      have HLL := Hid.mk (HOL.out.bs.keep k2)
      clear o2 k2
      obtain ⟨ok, hok⟩ : ∃ ok, ok = gk := ⟨_, rfl⟩
      subst hok
      obtain ⟨wo, hwo⟩ : ∃ wo, wo = wr := ⟨_, rfl⟩
      subst hwo
      go_wp2_with fail
      go_loopg [7, 8] 5 (fun gk sv av wr => ∃ (j : Nat) (sv' : Value), j + gk = 5 ∧ av = .int .i64 ((16 * j : Nat) : Int) ∧ sv = sv' ∧ Own w.heap.size 5 wr sv' ((nfK s j).map cb) ∧ Keep w2 wr)
      case atStart => exact ⟨0, _, by omega, rfl, rfl, HO2.out, Keep.refl _⟩
      case round =>
        obtain ⟨j, sv, hj, rfl, rfl, os, kx⟩ := hrel
        have HJJ := Hid.mk hj
        have HOS := Hid.mk os
        have HKX := Hid.mk kx
        obtain ⟨sa, sc, hsv, -, -, -⟩ := os.bs.form
        rw [nfK_length] at hsv
        have HLX := Hid.mk (HLL.out.keep kx)
        clear hj os kx
        by_cases hlt2 : j < 5
        · obtain ⟨q, hq⟩ : ∃ q : Nat, q = 16 * j := ⟨_, rfl⟩
          rw [← hq]
          obtain ⟨q16, hq16⟩ : ∃ q16 : Nat, q16 = q + 16 := ⟨_, rfl⟩
          have hcl : 80 ≤ lc := by
            obtain ⟨_, _, e, h1, h2, -⟩ := HLX.out.form
            injection e with e1 e2 e3
            rw [lgK_length, HL.out] at h1
            omega
          have hcm2 : lc ≤ 9223372036854775807 := by
            obtain ⟨_, _, e, h1, h2, -⟩ := HLX.out.form
            injection e with e1 e2 e3
            unfold maxLen at h2
            omega
          have i1 : (q : Int) < 80 := by omega
          have x2 : IntKind.i64.wrap ((q : Int) + 16) = (q16 : Int) := by rw [IntKind.wrap_i64] <;> omega
          have x4 : (q16 : Int) ≤ lc := by omega
          have x5 : (q : Int) ≤ lc := by omega
          have x6 : ¬ lc = q := by omega
          have x7 : (q : Int) ≤ q16 := by omega
          have x8 : (0 : Int) ≤ q := by omega
          have x9 : (0 : Int) ≤ q16 := by omega
          have HPt : Bs wr (.slice (la.map (·.add q)) (q16 - q) (lc - q)) (((lgK s 16).drop (16 * j)).take 16) := by
            have h := HLX.out.part (i := q) (j := q16) (by omega) (by omega) (la.map (·.add q)) (fun _ => rfl)
            have e : q16 - q = 16 := by omega
            rw [e] at h ⊢
            rw [← hq]
            exact h
          have AC := Hid.mk (addOnes_c _ _ (nfK s j) (((lgK s 16).drop (16 * j)).take 16) 16 wr HOS.out.bs HPt (nfK_length _ _) (by rw [List.length_take, List.length_drop, lgK_length, HL.out]; omega) (by omega) (by omega))
          have HNS : Hid (nfK s (j + 1) = addF (nfK s j) (((lgK s 16).drop (16 * j)).take 16) 16) := Hid.mk rfl
          subst hsv
          have HQ := Hid.mk hq
          have HQ16 := Hid.mk hq16
          clear hq hq16 HPt
          go_wp2_with fail
          refine AC.out.mono ?_
          rintro e w3 ⟨v3, rfl, o3, k3⟩
          have HO3 := Hid.mk (o3.mono (HK2.out.trans HKX.out).size)
          have HK3 := Hid.mk (HKX.out.trans k3)
          clear o3 k3
          go_wp2_with fail
          go_roundg (gk - 1)
          case measure => have := HJJ.out; omega
          case rel => exact ⟨j + 1, _, by have := HJJ.out; omega, by have := HQ.out; have := HQ16.out; congr 1; omega, rfl, HO3.out, HK3.out⟩
        · obtain rfl : j = 5 := by have := HJJ.out; omega
          subst hsv
          go_wp2_with fail
          go_ret
          exact ⟨_, rfl, HOS.out, HK2.out.trans HKX.out⟩
end Go.Proofs.Qxb6500771aGreat
