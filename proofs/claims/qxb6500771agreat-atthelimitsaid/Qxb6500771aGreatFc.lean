/- octetsm.AddOnes; framem: lcm, NFold, DR. -/
import Derived.Test.Qxb6500771aGreatFb
import Derived.Test.Qxb6500771aGreatEa
namespace Go.Proofs.Qxb6500771aGreat
open Go.RowKit Go.Qm
set_option linter.unusedVariables false
set_option linter.unusedSimpArgs false
attribute [local go_sem ↓] Go.wp_at_zero Go.wp_at_succ
theorem led_zero : ∀ n, led 0 n = List.replicate n 0
  | 0 => rfl
  | n + 1 => by rw [led, led_zero n, List.replicate_succ']; simp
theorem dig_zero (n : Nat) : dig 0 n = List.replicate n 0 := by rw [dig, led_zero, List.reverse_replicate]
def addF (a b : List UInt8) (n : Nat) : List UInt8 := if crr a b n 0 n = 0 then plL a b n 0 else plL (plL a b n 0) (List.replicate n 0) n 1
theorem addF_length (a b : List UInt8) (n : Nat) : (addF a b n).length = n := by unfold addF; split <;> exact plL_length _ _ _ _
set_option maxRecDepth 4000 in
set_option maxHeartbeats 4000000 in
theorem addOnes_c (va vb : Value) (a b : List UInt8) (n : Nat) (w : World) (ha : Bs w va a) (hb : Bs w vb b) (hla : a.length = n) (hlb : b.length = n) (h0 : n ≠ 0) (hn : n ≤ 1000) : Calls Tryz.prog 110 #[va, vb] w fun e w' => ∃ v', e = .returned v' ∧ Own w.heap.size 5 w' v' ((addF a b n).map cb) ∧ Keep w w' := by
  obtain ⟨aa, ac, rfl, hac, hacm, -⟩ := ha.form
  obtain ⟨ba, bc, rfl, hbc, hbcm, -⟩ := hb.form
  unfold maxLen at hacm hbcm
  have HA := Hid.mk ha
  have HB := Hid.mk hb
  have HLA := Hid.mk hla
  have HLB := Hid.mk hlb
  have DC : Hid (∀ W, Calls Tryz.prog 70 #[.int .u64 0, .int .i64 n] W fun e w' => ∃ v', e = .returned v' ∧ Own W.heap.size 5 w' v' ((List.replicate n 0).map cb) ∧ Keep W w') := Hid.mk (fun W => by
    have h9 := digits_c 0 n W (by decide) hn
    rw [dig_zero] at h9
    exact h9)
  rw [hla] at HA hac ⊢
  rw [hlb] at HB hbc ⊢
  have hni : (n : Int) ≤ 1000 := by omega
  clear ha hb hla hlb
  go_enter Tryz.func110, Tryz.ntmps110
  go_wp2_with fail
  refine (DC.out _).mono ?_
  rintro e w1 ⟨v1, rfl, o1, k1⟩
  have P1 := Hid.mk (plus_c _ _ a b n 0 w1 (HA.out.keep k1) (HB.out.keep k1) HLA.out HLB.out h0 hn (by omega))
  have HO1 := Hid.mk o1
  have HK1 := Hid.mk k1
  obtain ⟨za, zc, hz, -, -, -⟩ := o1.bs.form
  rw [List.length_replicate] at hz
  subst hz
  clear o1 k1
  go_wp2_with fail
  refine P1.out.mono ?_
  rintro e w2 ⟨v2, rfl, o2, k2⟩
  obtain ⟨sa, sc, hs2, -, -, -⟩ := o2.bs.form
  rw [plL_length] at hs2
  subst hs2
  have HC : Hid (crr a b n 0 n = 0 ∨ crr a b n 0 n = 1) := Hid.mk (by have := crr_le a b n 0 (by omega) n; omega)
  have HK2 := Hid.mk (HK1.out.trans k2)
  have HZ2 := Hid.mk (HO1.out.keep k2)
  have HO2 := Hid.mk (o2.mono HK1.out.size)
  have HA2 : Hid (crr a b n 0 n = 1 → crr (plL a b n 0) (List.replicate n 0) n 1 n = 0) := Hid.mk (carry2 a b n)
  have HAF : Hid (addF a b n = if crr a b n 0 n = 0 then plL a b n 0 else plL (plL a b n 0) (List.replicate n 0) n 1) := Hid.mk rfl
  clear o2 k2
  generalize crr a b n 0 n = c1 at *
  have HA3 : Hid (c1 = 1 → crr (plL a b n 0) (List.replicate n 0) n c1 n = 0 ∧ addF a b n = plL (plL a b n 0) (List.replicate n 0) n c1) := Hid.mk (fun e => by subst e; exact ⟨HA2.out rfl, by rw [HAF.out, if_neg (by omega)]⟩)
  go_wp2_with fail
  go_loopw [6, 7] (fun s cv wr => ∃ (cj : Nat) (s' : Value), cv = .int .i64 cj ∧ s = s' ∧ ((cj = c1 ∧ s' = .slice sa n sc ∧ wr = w2) ∨ (c1 = 1 ∧ cj = 0 ∧ Own w.heap.size 5 wr s' ((plL (plL a b n 0) (List.replicate n 0) n c1).map cb) ∧ Keep w wr))) (fun _ c _ => (intOf c).toNat)
  case atStart => exact ⟨c1, _, rfl, rfl, Or.inl ⟨rfl, rfl, rfl⟩⟩
  case round =>
    obtain ⟨cj, s', rfl, rfl, hrel⟩ := hrel
    rcases hrel with ⟨rfl, rfl, rfl⟩ | ⟨h1, rfl, ho, kw⟩
    · rcases HC.out with e0 | e1
      · have HR : Hid (addF a b n = plL a b n 0) := Hid.mk (by rw [HAF.out, if_pos e0])
        have y1 : ((cj : Int) != 0) = false := by simp; omega
        clear e0
        go_wp2_with fail
        go_ret
        exact ⟨_, rfl, by rw [HR.out]; exact HO2.out, HK2.out⟩
      · have P2 := Hid.mk (plus_c _ _ (plL a b n 0) (List.replicate n 0) n cj wr HO2.out.bs HZ2.out.bs (plL_length _ _ _ _) (by simp) h0 hn (by omega))
        rw [(HA3.out e1).1] at P2
        have y1 : ((cj : Int) != 0) = true := by simp; omega
        have HE1 := Hid.mk e1
        clear e1
        go_wp2_with fail
        refine P2.out.mono ?_
        rintro e w3 ⟨v3, rfl, o3, k3⟩
        have HO3 := Hid.mk (o3.mono HK2.out.size)
        have HK3 := Hid.mk (HK2.out.trans k3)
        obtain ⟨ta, tc, ht, -, -, -⟩ := o3.bs.form
        subst ht
        clear o3 k3
        go_wp2_with fail
        go_roundw
        case rel => exact ⟨0, _, rfl, rfl, Or.inr ⟨HE1.out, rfl, HO3.out, HK3.out⟩⟩
        case measure => have := HE1.out; simp [intOf]; omega
    · have HR : Hid (addF a b n = plL (plL a b n 0) (List.replicate n 0) n c1) := Hid.mk (HA3.out h1).2
      have HO := Hid.mk ho
      have HKW := Hid.mk kw
      clear ho kw
      go_wp2_with fail
      go_ret
      exact ⟨_, rfl, by rw [HR.out]; exact HO.out, HKW.out⟩
set_option maxRecDepth 4000 in
/-- The two lengths that are met: 5 and 16. -/
theorem lcm_c (w : World) : Calls Tryz.prog 108 #[.int .i64 5, .int .i64 16] w fun e w' => e = .returned (.int .i64 80) ∧ w' = w := by
  go_enter Tryz.func108, Tryz.ntmps108
  go_wp2_with fail
  go_loopw [5] (fun mv wr => ∃ k : Nat, 1 ≤ k ∧ k ≤ 16 ∧ mv = .int .i64 ((5 * k : Nat) : Int) ∧ wr = w) (fun m _ => 100 - (intOf m).toNat)
  case atStart => exact ⟨1, by omega, by omega, rfl, rfl⟩
  case round =>
    obtain ⟨k, h1, h2, rfl, rfl⟩ := hrel
    by_cases h16 : k = 16
    · subst h16
      go_wp2_with fail
      go_ret
      exact ⟨rfl, rfl⟩
    · have hm : ((5 * k : Nat) : Int).tmod 16 = ((5 * k % 16 : Nat) : Int) := (Int.ofNat_tmod (5 * k) 16).symm
      have hne : 5 * k % 16 ≠ 0 := by omega
      have hw : IntKind.i64.wrap (((5 * k : Nat) : Int) + 5) = ((5 * (k + 1) : Nat) : Int) := by rw [IntKind.wrap_i64] <;> omega
      have HW : Hid (((5 * k : Nat) : Int) + 5 = ((5 * (k + 1) : Nat) : Int)) := Hid.mk (by omega)
      generalize 5 * k % 16 = r at *
      have hr : ((r : Int) != 0) = true := by simp; omega
      generalize hq : 5 * k = q at *
      have hq9 : q ≤ 75 := by omega
      generalize hq' : 5 * (k + 1) = q' at *
      have HQ' := Hid.mk hq'
      have HQ := Hid.mk hq
      clear hq hq'
      go_wp2_with fail
      go_roundw
      case rel => exact ⟨k + 1, by omega, by omega, by rw [HQ'.out], trivial⟩
      case measure => have := HQ.out; have := HQ'.out; have := HW.out; simp [intOf] <;> omega
end Go.Proofs.Qxb6500771aGreat
