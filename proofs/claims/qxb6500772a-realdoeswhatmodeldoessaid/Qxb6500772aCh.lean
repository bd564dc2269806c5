/- circuitm: ConstW. -/
import Derived.Test.Qxb6500772aCe
namespace Go.Proofs.Qxb6500772a
open Go.RowKit Go.Qm
set_option linter.unusedVariables false
set_option linter.unusedSimpArgs false
attribute [local go_sem ↓] Go.wp_at_zero Go.wp_at_succ
theorem bits_bit (v k : Nat) (hv : v < 2 ^ 64) : bits .and .u64 ((v : Int) / 2 ^ k) 1 = ((v.testBit k).toNat : Int) := by
  have e : (v : Int) / 2 ^ k = ((v / 2 ^ k : Nat) : Int) := by push_cast; rfl
  have e1 : (1 : Int) = ((1 : Nat) : Int) := rfl
  rw [e, e1, bits_and_u64 _ _ (Nat.lt_of_le_of_lt (Nat.div_le_self _ _) hv) (by decide), Nat.and_one_is_mod, Nat.testBit_eq_decide_div_mod_eq]
  rcases Nat.mod_two_eq_zero_or_one (v / 2 ^ k) with a | a <;> simp [a]
section
variable {B gc n : Nat} {X : Nat → Prop} {gv : Value} {G : List Gate} {w : World}
set_option maxRecDepth 4000 in
set_option maxHeartbeats 4000000 in
theorem constW_c (h : CC B X w gc gv G n) (hw : WFG G) (hX : ∀ q, X q → q < w.heap.size) (v0 : Nat) (hv : v0 < 2 ^ 64) (k0 : Nat) (hk0 : k0 ≤ 64) (hl : G.length ≤ 800000000) :
    Calls Try.prog 66 #[.pointer (some ⟨gc, 0, none⟩), .int .u64 (v0 : Nat), .int .i64 (k0 : Nat)] w fun e w' => RetV B X gc gv w G n 64 k0 (fun _ => v0 % 2 ^ k0) e w' := by
  have HL := Hid.mk hl
  have HXX := Hid.mk hX
  have HK0 := Hid.mk hk0
  have i0 : (k0 : Int) ≤ 64 := by omega
  have L0 := LW.start h hw (fun _ => v0 % 2 ^ k0)
  have HL0 := Hid.mk L0
  have HVV := Hid.mk hv
  clear hl h hX hk0 L0 hv
  go_enter Try.func66, Try.ntmps66
  go_wp2_with fail
  go_loopg [7, 8] k0 (fun gk v7 v8 wr => ∃ (k : Nat) (g' : Value) (G' : List Gate) (v : Value) (l : List Nat), k + gk = k0 ∧ v8 = .int .i64 k ∧ v7 = v ∧ LW B X w gc gv G n (fun _ => v0 % 2 ^ k0) k k wr g' G' v l)
  case atStart => exact ⟨0, gv, G, _, _, by omega, rfl, rfl, HL0.out⟩
  case round =>
    obtain ⟨k, g', G', ov, l, hk, rfl, hov, LL⟩ := hrel
    rw [hov]
    have HOV := Hid.mk hov
    have HK := Hid.mk hk
    have HLL := Hid.mk LL
    clear hov hk
    by_cases hlt : k < k0
    · have i1 : (k : Int) < k0 := by omega
      have i2 : (0 : Int) ≤ k := by omega
      have hln := LL.ln
      have HLN := Hid.mk hln
      have hw2 : w.heap.size ≤ wr.heap.size := LL.st.1.size
      by_cases hb : v0.testBit k = true
      · have NC := true_s LL.cc LL.ex.wf (by have := HL.out; have := LL.ex.len; omega)
        have hbit : bits .and .u64 ((v0 : Int) / 2 ^ k) 1 = 1 := by rw [bits_bit v0 k HVV.out, hb]; rfl
        have HB : Hid (v0.testBit k = true) := Hid.mk hb
        clear LL hln hb
        go_wp2_with fail
        refine NC.mono ?_
        rintro e w2 ⟨g2, G2, bb, rfl, c2, s2, e2, b2⟩
        have hw3 : w.heap.size ≤ w2.heap.size := Nat.le_trans hw2 s2.1.size
        have HC2 := Hid.mk c2
        have HS2 := Hid.mk s2
        have HE2 := Hid.mk e2
        have HB2 := Hid.mk b2
        have HO2 := Hid.mk (HLL.out.ow.step s2)
        clear c2 s2 NC e2 b2
        go_wp2_with (at_builtin; refine wpList_app (by rfl) _ _ _ (by rfl) Try.underlying95 inf46 rfl w.heap.size (HO2.out.1.alloc _) (Own.lit (B := w.heap.size) [.int .i64 (bb : Nat)] hw3 (by simp [maxLen])).sl (by simp [Value.oneCell']) (by rfl) (by rfl) (by have := HLN.out; simp [maxLen]; omega) (by have := HLN.out; simp; omega) (by simp; omega) ?_; intro v' w' hown' hgr hob)
        go_roundg (gk - 1)
        case measure => have := HK.out; omega
        case rel =>
          refine ⟨k + 1, g2, G2, v', _, by have := HK.out; omega, by go_num, rfl, HLL.out.push HC2.out HS2.out HE2.out (HB2.out.congr fun inp => ?_) ((Keep.refl _).alloc _) hown' hgr hob⟩
          rw [Nat.testBit_mod_two_pow, HB.out]
          simp [hlt]
      · have hb : v0.testBit k = false := by simpa using hb
        have NC := false_c gc wr
        have hbit : bits .and .u64 ((v0 : Int) / 2 ^ k) 1 = 0 := by rw [bits_bit v0 k HVV.out, hb]; rfl
        have HB : Hid (v0.testBit k = false) := Hid.mk hb
        clear LL hln hb
        go_wp2_with fail
        refine NC.mono ?_
        rintro e w2 ⟨rfl, hy⟩
        subst hy
        have c2 := HLL.out.cc
        have s2 : Stp (fpC gc g') (fpC gc g') w2 w2 := Stp.keep (Keep.refl _)
        have e2 := (Ext.refl HLL.out.ex.wf).mono (Nat.zero_le 1)
        have b2 := HLL.out.ex.wf.2
        have hw3 : w.heap.size ≤ w2.heap.size := Nat.le_trans hw2 s2.1.size
        have HC2 := Hid.mk c2
        have HS2 := Hid.mk s2
        have HE2 := Hid.mk e2
        have HB2 := Hid.mk b2
        have HO2 := Hid.mk (HLL.out.ow.step s2)
        clear c2 s2 NC e2 b2
        go_wp2_with (at_builtin; refine wpList_app (by rfl) _ _ _ (by rfl) Try.underlying95 inf46 rfl w.heap.size (HO2.out.1.alloc _) (Own.lit (B := w.heap.size) [.int .i64 (0 : Nat)] hw3 (by simp [maxLen])).sl (by simp [Value.oneCell']) (by rfl) (by rfl) (by have := HLN.out; simp [maxLen]; omega) (by have := HLN.out; simp; omega) (by simp; omega) ?_; intro v' w' hown' hgr hob)
        go_roundg (gk - 1)
        case measure => have := HK.out; omega
        case rel =>
          refine ⟨k + 1, g', G', v', _, by have := HK.out; omega, by go_num, rfl, HLL.out.push HC2.out HS2.out HE2.out (HB2.out.congr fun inp => ?_) ((Keep.refl _).alloc _) hown' hgr hob⟩
          rw [Nat.testBit_mod_two_pow, HB.out]
          simp [hlt]
    · have i1 : ¬ (k : Int) < k0 := by omega
      obtain rfl : k = k0 := by have := HK.out; omega
      clear LL
      go_wp2_with fail
      go_ret
      exact HLL.out.done (K' := 64) HXX.out HK0.out (fun i => Nat.mod_lt _ (Nat.two_pow_pos k))
end
end Go.Proofs.Qxb6500772a
