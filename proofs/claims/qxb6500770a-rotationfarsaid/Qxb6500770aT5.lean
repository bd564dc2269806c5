import Derived.Test.Qxb6500770aT4
namespace Go.Proofs.Qxb6500770a
open Go.RowKit Go.Qm
set_option linter.unusedVariables false
set_option linter.unusedSimpArgs false

/-- Octet i of the string l rotated right by 8 * q + r bits. -/
def rd (l : List UInt8) (q r i : Nat) : UInt8 := shr8 (l.getD ((l.length - q + i) % l.length) 0) r ||| shl8 (l.getD ((l.length - q + i + (l.length - 1)) % l.length) 0) (8 - r)

theorem getD_of_lt {l : List UInt8} {k : Nat} (h : k < l.length) : l.getD k 0 = l[k] := by simp [List.getD, h]

set_option maxHeartbeats 1000000 in
theorem rotd_c (g n c : Nat) (e0 : TypeId) (sp : List Value) (l l0 : List UInt8) (v : Value) (m : Int) (w : World) (hn0 : 0 ≤ m) (hn1 : m < 18446744073709551616) (hl : l.length ≤ 1000000) (h0 : l0.length = n) (hln : l.length = n) (hc : n ≤ c) (hm : c ≤ maxLen)
    (hpos : 0 < n) (hg : Win w g e0 [] l0 sp) (hv : Bs w v l) (hne : v.ownBlock ≠ some g) :
    Calls Try.prog 10 #[.slice (some ⟨g, 0, none⟩) n c, v, .int .u64 m] w fun e w' => e = .returned (.int .i64 0) ∧
      Win w' g e0 [] ((List.range n).map (rd l (m.toNat % (n * 8) / 8) (m.toNat % (n * 8) % 8))) sp ∧ w.grownBy w' (some g) := by
  obtain ⟨a, cv, rfl, hac, hcm, hca⟩ := hv.form
  unfold maxLen at hm hcm
  subst hln
  obtain ⟨s, hs⟩ : ∃ s : Nat, m.toNat % (l.length * 8) = s := ⟨_, rfl⟩
  have hsl : s < l.length * 8 := by rw [← hs]; exact Nat.mod_lt _ (by omega)
  have es : m % ((l.length : Int) * 8) = (s : Int) := by rw [← hs]; simp [Int.toNat_of_nonneg hn0]
  rw [hs]
  clear hs
  obtain ⟨q, hq⟩ : ∃ q : Nat, s / 8 = q := ⟨_, rfl⟩
  obtain ⟨r, hr⟩ : ∃ r : Nat, s % 8 = r := ⟨_, rfl⟩
  have e8 : (s : Int) % 8 = (r : Int) := by omega
  have eq : (s : Int) / 8 = (q : Int) := by omega
  have hr8 : r < 8 := by omega
  have hq8 : q < l.length := by omega
  rw [hq, hr]
  clear hq hr
  have hnz : ((l.length : Int) == 0) = false := beq_eq_false_iff_ne.2 (by omega)
  have HN : Hid (l0.length = l.length) := h0
  clear h0
  have hfacts : (q = 0 ∧ (((l.length : Int) - q) == (l.length : Int)) = true) ∨ (q ≠ 0 ∧ (((l.length : Int) - q) == (l.length : Int)) = false ∧ ¬ (l.length : Int) - q - 1 < 0) := by
    by_cases hq0 : q = 0
    · exact Or.inl ⟨hq0, beq_iff_eq.2 (by omega)⟩
    · exact Or.inr ⟨hq0, beq_eq_false_iff_ne.2 (by omega), by omega⟩
  rcases hfacts with ⟨hq0', hq1⟩ | ⟨hq0', hq1, hq2⟩
  all_goals
    have HQ := Hid.mk hq0'
    clear hq0'
    go_enter Try.func10, Try.ntmps10
    go_wp2
    go_loopw [9, 10, 43] (fun av bv iv wr => ∃ k : Nat, k ≤ l.length ∧ iv = .int .i64 k ∧ av = .int .i64 ((l.length - q + k) % l.length : Nat) ∧ bv = .int .i64 ((l.length - q + k + (l.length - 1)) % l.length : Nat) ∧
      Win wr g e0 [] ((List.range k).map (rd l q r) ++ l0.drop k) sp ∧ w.grownBy wr (some g)) (fun _ _ i _ => l.length - (intOf i).toNat)
    case atStart =>
      have hq0 := HQ.out
      refine ⟨0, by omega, rfl, ?_, ?_, hg, grown_refl _ _⟩
      · congr 1
        first
          | (subst hq0; simp; done)
          | (rw [Nat.add_zero, Nat.mod_eq_of_lt (by omega)]; omega)
      · congr 1
        first
          | (subst hq0; rw [Nat.add_zero, Nat.sub_zero, Nat.add_mod_left, Nat.mod_eq_of_lt (by omega)]; omega)
          | (rw [Nat.add_zero, show l.length - q + (l.length - 1) = l.length - q - 1 + l.length by omega, Nat.add_mod_right, Nat.mod_eq_of_lt (by omega)]; omega)
    case round =>
      obtain ⟨k, hk, rfl, rfl, rfl, hwin, hgr⟩ := hrel
      have hx : (l.length - q + k) % l.length < l.length := Nat.mod_lt _ hpos
      have hy : (l.length - q + k + (l.length - 1)) % l.length < l.length := Nat.mod_lt _ hpos
      by_cases hlt : k < l.length
      · obtain ⟨x, hxe⟩ : ∃ x, (l.length - q + k) % l.length = x := ⟨_, rfl⟩
        obtain ⟨y, hye⟩ : ∃ y, (l.length - q + k + (l.length - 1)) % l.length = y := ⟨_, rfl⟩
        have hy' : (l.length - q + (k + 1) + (l.length - 1)) % l.length = x := by
          rw [show l.length - q + (k + 1) + (l.length - 1) = l.length - q + k + l.length by omega, Nat.add_mod_right]; exact hxe
        have hx' : (l.length - q + (k + 1)) % l.length = if x + 1 = l.length then 0 else x + 1 := by
          rw [← Nat.add_assoc, Nat.add_mod, hxe]
          rw [hxe] at hx
          split
          · rename_i h
            by_cases h1 : l.length = 1
            · rw [h1]; omega
            · rw [Nat.mod_eq_of_lt (show 1 < l.length by omega), h, Nat.mod_self]
          · rw [Nat.mod_eq_of_lt (show 1 < l.length by omega), Nat.mod_eq_of_lt (by omega)]
        have hrd : rd l q r k = (shr8 (l.getD x 0) r ||| shl8 (l.getD y 0) (8 - r)) := by unfold rd; rw [hxe, hye]
        rw [hxe] at hx
        rw [hye] at hy
        rw [hxe, hye]
        rw [getD_of_lt hx, getD_of_lt hy] at hrd
        obtain ⟨b, o, rfl, cx⟩ := hca x hx
        obtain ⟨b', o', hbo, cy⟩ := hca y hy
        simp only [Option.some.injEq, Addr.mk.injEq, and_true] at hbo
        obtain ⟨rfl, rfl⟩ := hbo
        have hbg : b ≠ g := by simpa [Value.ownBlock] using hne
        replace cx := hgr.cell cx (by simpa using hbg)
        replace cy := hgr.cell cy (by simpa using hbg)
        have hln : k < ((List.range k).map (rd l q r) ++ l0.drop k).length := by simp [HN.out]; omega
        have cz := hwin.cell hln (o := k) (by simp)
        generalize ((List.range k).map (rd l q r) ++ l0.drop k)[k] = z at cz
        have fz := hwin.frozen k
        have h1 : (x : Int) < l.length := by omega
        have h2 : (y : Int) < l.length := by omega
        have h3 : (k : Int) < l.length := by omega
        have HX := Hid.mk hx'
        have HY := Hid.mk hy'
        have HR := Hid.mk hrd
        clear hxe hye hx' hy' hrd
        have e2 : bits BinOp.or IntKind.u8 ((l[x].toNat : Int) / 2 ^ r) ((l[y].toNat : Int) * 2 ^ (8 - r) % 256) = ((rd l q r k).toNat : Int) := by
          rw [HR.out, ← shr8_val, ← shl8_val, bits_or8]
        have HE := Hid.mk e2
        clear e2
        by_cases hxn : x + 1 = l.length
        · have hxn' : ((x : Int) + 1 == (l.length : Int)) = true := beq_iff_eq.2 (by omega)
          have HXN := Hid.mk hxn
          clear hxn
          go_wp2
          go_region
          go_wp2
          go_roundw
          case rel =>
            refine ⟨k + 1, by omega, by go_num, ?_, by rw [HY.out], ?_, grown_drew (grown_set hgr _ _)⟩
            · rw [HX.out, if_pos HXN.out]; rfl
            · rw [HE.out]; exact (hwin.range (by rw [HN.out]; exact hlt)).drew
          case measure => simp [intOf]; omega
        · have hxn' : ((x : Int) + 1 == (l.length : Int)) = false := beq_eq_false_iff_ne.2 (by omega)
          have HXN := Hid.mk hxn
          clear hxn
          go_wp2
          go_region
          go_wp2
          go_roundw
          case rel =>
            refine ⟨k + 1, by omega, by go_num, ?_, by rw [HY.out], ?_, grown_drew (grown_set hgr _ _)⟩
            · rw [HX.out, if_neg HXN.out]; go_num
            · rw [HE.out]; exact (hwin.range (by rw [HN.out]; exact hlt)).drew
          case measure => simp [intOf]; omega
      · have i1 : ¬ (k : Int) < l.length := by omega
        go_wp2
        go_ret
        have hkl : k = l.length := by omega
        refine ⟨rfl, ?_, hgr⟩
        subst hkl
        rw [List.drop_of_length_le (by rw [HN.out]; omega), List.append_nil] at hwin
        exact hwin
end Go.Proofs.Qxb6500770a
