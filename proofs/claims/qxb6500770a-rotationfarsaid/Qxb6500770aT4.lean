import Derived.Test.Qxb6500770aT3
namespace Go.Proofs.Qxb6500770a
open Go.RowKit Go.Qm
set_option linter.unusedVariables false
set_option linter.unusedSimpArgs false

/-- One pass of the bit rotation. -/
def pass (r : Nat) : UInt8 → List UInt8 → List UInt8
  | _, [] => []
  | c, x :: t => (shr8 x r ||| c) :: pass r (shl8 x (8 - r)) t

/-- Right rotation by s bits, s under the length in bits. -/
def bitR (l : List UInt8) (s : Nat) : List UInt8 :=
  if s % 8 = 0 then rotO l (s / 8) else pass (s % 8) (shl8 ((rotO l (s / 8)).getLastD 0) (8 - s % 8)) (rotO l (s / 8))
theorem pass_length (r : Nat) : ∀ (c : UInt8) (l : List UInt8), (pass r c l).length = l.length
  | _, [] => rfl
  | c, x :: t => by simp [pass, pass_length r _ t]
theorem bitR_length (l : List UInt8) (s : Nat) : (bitR l s).length = l.length := by
  unfold bitR
  split <;> simp [pass_length, rotO_length]
theorem bitR_nil (s : Nat) : bitR [] s = [] := List.eq_nil_of_length_eq_zero (by rw [bitR_length]; rfl)
theorem getLastD_of_get {l : List UInt8} {n : Nat} (hn : l.length = n) (h : n - 1 < l.length) : l.getLastD 0 = l[n - 1] := by
  subst hn
  have hne : l ≠ [] := by intro e; subst e; simp at h
  rw [List.getLastD_eq_getLast?, List.getLast?_eq_some_getLast hne, Option.getD_some, List.getLast_eq_getElem]

set_option maxHeartbeats 400000 in
theorem rotR_c (g c : Nat) (e0 : TypeId) (post : List Value) (l : List UInt8) (n : Int) (w : World) (hn0 : 0 ≤ n) (hn1 : n < 18446744073709551616) (hl : l.length ≤ 1000000) (hc : l.length ≤ c) (hm : c ≤ maxLen) (hg : Win w g e0 [] l post) :
    Calls Try.prog 8 #[.slice (some ⟨g, 0, none⟩) l.length c, .int .u64 n] w fun e w' => e = .returned (.tuple #[]) ∧ Win w' g e0 [] (bitR l (n.toNat % (l.length * 8))) post ∧ w.grownBy w' (some g) := by
  have hm' := hm
  unfold maxLen at hm
  by_cases h2 : l.length = 0
  · have : l = [] := List.eq_nil_of_length_eq_zero h2
    subst this
    go_enter Try.func8, Try.ntmps8
    go_wp2
    refine bodyPost_ret (results_none rfl _ _ _) rfl ⟨rfl, ?_, grown_refl _ _⟩
    rw [bitR_nil]; exact hg
  · have h2' : ((l.length : Int) == 0) = false := beq_eq_false_iff_ne.2 (by omega)
    obtain ⟨s, hs⟩ : ∃ s : Nat, n.toNat % (l.length * 8) = s := ⟨_, rfl⟩
    have hsl : s < l.length * 8 := by rw [← hs]; exact Nat.mod_lt _ (by omega)
    have es : n % ((l.length : Int) * 8) = (s : Int) := by rw [← hs]; simp [Int.toNat_of_nonneg hn0]
    have e8 : (s : Int) % 8 = ((s % 8 : Nat) : Int) := by omega
    have hr8 : s % 8 < 8 := by omega
    have HH : Hid (n.toNat % (l.length * 8) = s) := hs
    clear hs
    have hsd : ((s / 8 : Nat) : Int).toNat % l.length = s / 8 := by
      rw [Int.toNat_natCast]; exact Nat.mod_eq_of_lt (by omega)
    by_cases hr : s % 8 = 0
    · have hr' : (((s % 8 : Nat) : Int) == 0) = true := beq_iff_eq.2 (by omega)
      have HR : Hid (s % 8 = 0) := hr
      have HS : Hid (((s / 8 : Nat) : Int).toNat % l.length = s / 8) := hsd
      clear hr hsd
      generalize hrr : s % 8 = r at *
      have HRR : Hid (s % 8 = r) := hrr
      clear hrr
      go_enter Try.func8, Try.ntmps8
      go_wp2_with fail
      refine (rotOct_c g 0 c e0 [] post l (s / 8 : Nat) w (by omega) (by omega) rfl hc hm' hg).mono ?_
      rintro e w1 ⟨rfl, hw1, hg1⟩
      go_wp2
      refine bodyPost_ret (results_none rfl _ _ _) rfl ⟨rfl, ?_, hg1⟩
      rw [HH.out]
      unfold bitR
      rw [if_pos (by rw [HRR.out]; exact HR.out), ← HS.out]
      exact hw1
    · have hr' : (((s % 8 : Nat) : Int) == 0) = false := beq_eq_false_iff_ne.2 (by omega)
      have HS : Hid (((s / 8 : Nat) : Int).toNat % l.length = s / 8) := hsd
      clear hsd
      generalize hrr : s % 8 = r at *
      have HRR : Hid (s % 8 = r) := hrr
      clear hrr
      go_enter Try.func8, Try.ntmps8
      go_wp2_with fail
      refine (rotOct_c g 0 c e0 [] post l (s / 8 : Nat) w (by omega) (by omega) rfl hc hm' hg).mono ?_
      rintro e w1 ⟨rfl, hw1, hg1⟩
      generalize hq : rotO l (((s / 8 : Nat) : Int).toNat % l.length) = l1 at *
      have hl1 : l1.length = l.length := by rw [← hq, rotO_length]
      have hk1 : l.length - 1 < l1.length := by omega
      have c1 := hw1.cell (k := l.length - 1) hk1 (o := l.length - 1) (by simp)
      have h0 : (0 : Int) ≤ (l.length : Int) - 1 := by omega
      have HQ : Hid (rotO l (((s / 8 : Nat) : Int).toNat % l.length) = l1) := hq
      have HL : Hid (l1.length = l.length) := hl1
      clear hq hl1
      go_wp2_with fail
      go_loopw [5, 36] (fun cv iv wr => ∃ (k : Nat) (cy : UInt8) (dn : List UInt8), k ≤ l.length ∧ iv = .int .i64 k ∧ cv = .int .u8 cy.toNat ∧ dn.length = k ∧
        pass r (shl8 l1[l.length - 1] (8 - r)) l1 = dn ++ pass r cy (l1.drop k) ∧ Win wr g e0 [] (dn ++ l1.drop k) post ∧ w1.grownBy wr (some g)) (fun _ i _ => l.length - (intOf i).toNat)
      case atStart =>
        exact ⟨0, shl8 l1[l.length - 1] (8 - r), [], by omega, rfl, by rw [shl8_val], rfl, rfl, hw1, grown_refl _ _⟩
      case round =>
        obtain ⟨k, cy, dn, hk, rfl, rfl, hdn, hpass, hwin, hgr⟩ := hrel
        by_cases hlt : k < l.length
        · have hk1 : k < l1.length := by rw [HL.out]; exact hlt
          have hd : l1.drop k = l1[k] :: l1.drop (k + 1) := List.drop_eq_getElem_cons hk1
          rw [hd] at hpass hwin
          have c1 := hwin.cell (k := k) (by simp [hdn]; omega) (o := k) (by simp)
          have e1 : (dn ++ l1[k] :: l1.drop (k + 1))[k]'(by simp [hdn]; omega) = l1[k] := by simp [← hdn]
          rw [e1] at c1
          clear e1
          have f1 := hwin.frozen k
          have HPs : Hid (pass r (shl8 l1[l.length - 1] (8 - r)) l1 = dn ++ pass r cy (l1[k] :: l1.drop (k + 1))) := hpass
          have HD : Hid (dn.length = k) := hdn
          clear hpass hd hdn
          have i0 : (0 : Int) ≤ k := by omega
          have i1 : (k : Int) < l.length := by omega
          go_wp2
          go_roundw
          case rel =>
            have e2 : bits BinOp.or IntKind.u8 ((l1[k].toNat : Int) / 2 ^ r) cy.toNat = ((shr8 l1[k] r ||| cy).toNat : Int) := by rw [← shr8_val, bits_or8]
            refine ⟨k + 1, shl8 l1[k] (8 - r), dn ++ [shr8 l1[k] r ||| cy], by omega, by go_num, by rw [shl8_val], by simp [HD.out], by rw [HPs.out]; simp [pass], ?_, grown_set hgr _ _⟩
            rw [e2]
            have := hwin.set (k := k) (by simp [HD.out]; omega) (shr8 l1[k] r ||| cy) (o := k) (by simp)
            rwa [List.set_append_right _ _ (by rw [HD.out]; omega), HD.out, Nat.sub_self, List.set_cons_zero, List.append_cons] at this
          case measure => simp [intOf]; omega
        · have i1 : ¬ (k : Int) < l.length := by omega
          go_wp2
          go_end0
          have hkl : k = l.length := by omega
          refine ⟨rfl, ?_, grown_trans hg1 hgr⟩
          rw [HH.out]
          unfold bitR
          rw [HRR.out, if_neg hr, ← HS.out, HQ.out, getLastD_of_get HL.out (by assumption), hpass]
          have e3 : l1.drop k = [] := List.drop_of_length_le (by rw [HL.out]; omega)
          rw [e3] at hwin ⊢
          simpa [pass] using hwin

set_option maxHeartbeats 400000 in
theorem rotL_c (g len c : Nat) (e0 : TypeId) (post : List Value) (l : List UInt8) (n : Int) (w : World) (hn0 : 0 ≤ n) (hn1 : n < 18446744073709551616) (hlen : len = l.length) (hl : len ≤ 1000000) (hc : len ≤ c) (hm : c ≤ maxLen) (hg : Win w g e0 [] l post) :
    Calls Try.prog 11 #[.slice (some ⟨g, 0, none⟩) len c, .int .u64 n] w fun e w' => e = .returned (.tuple #[]) ∧ Win w' g e0 [] (bitR l ((l.length * 8 - n.toNat % (l.length * 8)) % (l.length * 8))) post ∧ w.grownBy w' (some g) := by
  subst hlen
  by_cases h2 : l.length = 0
  · have : l = [] := List.eq_nil_of_length_eq_zero h2
    subst this
    go_enter Try.func11, Try.ntmps11
    go_wp2
    refine bodyPost_ret (results_none rfl _ _ _) rfl ⟨rfl, ?_, grown_refl _ _⟩
    rw [bitR_nil]; exact hg
  · have h2' : ((l.length : Int) == 0) = false := beq_eq_false_iff_ne.2 (by omega)
    obtain ⟨s, hs⟩ : ∃ s : Nat, n.toNat % (l.length * 8) = s := ⟨_, rfl⟩
    have hsl : s < l.length * 8 := by rw [← hs]; exact Nat.mod_lt _ (by omega)
    have es : n % ((l.length : Int) * 8) = (s : Int) := by rw [← hs]; simp [Int.toNat_of_nonneg hn0]
    have HH : Hid (n.toNat % (l.length * 8) = s) := hs
    clear hs
    go_enter Try.func11, Try.ntmps11
    go_wp2_with fail
    refine (rotR_c g c e0 post l _ w (by omega) (by omega) hl hc hm hg).mono ?_
    rintro e w1 ⟨rfl, hw1, hg1⟩
    go_wp2
    go_end0
    refine ⟨rfl, ?_, hg1⟩
    rw [HH.out]
    rwa [show ((l.length : Int) * 8 - s).toNat = l.length * 8 - s by omega] at hw1
end Go.Proofs.Qxb6500770a
