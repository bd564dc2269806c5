/- foldindex: above. -/
import Derived.Test.Qxb6500766aTb
namespace Go.Proofs.Qxb6500766a
open Go.RowKit Go.Qm
set_option linter.unusedVariables false
set_option linter.unusedSimpArgs false
attribute [local go_sem ↓] Go.wp_at_zero Go.wp_at_succ
def abvS (after : List UInt8) (acc : Option (List UInt8)) (s : Slot) : Option (List UInt8) :=
  if s.st = 1 ∧ lessB after s.key = true then (match acc with | none => some s.key | some b => if lessB s.key b = true then some s.key else some b) else acc
def aboveF (ss : List Slot) (after : List UInt8) : Option (List UInt8) := ss.foldl (abvS after) none
def accK (acc : Option (List UInt8)) : List UInt8 := acc.getD []
theorem abvS_skip {after : List UInt8} {acc : Option (List UInt8)} {s : Slot} (h : ¬ (s.st = 1 ∧ lessB after s.key = true)) : abvS after acc s = acc := by unfold abvS; rw [if_neg h]
theorem abvS_first {after : List UInt8} {s : Slot} (h : s.st = 1 ∧ lessB after s.key = true) : abvS after none s = some s.key := by unfold abvS; rw [if_pos h]
theorem abvS_next {after b : List UInt8} {s : Slot} (h : s.st = 1 ∧ lessB after s.key = true) : abvS after (some b) s = if lessB s.key b = true then some s.key else some b := by unfold abvS; rw [if_pos h]
set_option maxRecDepth 2000 in
set_option maxHeartbeats 2000000 in
theorem above_c (g o b n : Nat) (ss : List Slot) (after : List UInt8) (w : World) (hc : w.cell? ⟨g, o, none⟩ = some (.slice (some ⟨b, 0, none⟩) n n)) (hS : Slots w b ss) (hn : n = ss.length) (hn20 : n ≤ 2 ^ 20) (ha : after.length ≤ 1000000) (hk : ∀ s ∈ ss, s.key.length ≤ 1000000) (hst : ∀ s ∈ ss, s.st ≤ 2) :
    Calls Try.prog 43 #[.pointer (some ⟨g, o, none⟩), str after] w fun e w' => e = .returned (.tuple #[str (accK (aboveF ss after)), .bool (aboveF ss after).isSome]) ∧ Keep w w' := by
  have HN := Hid.mk hn
  clear hn
  go_enter Try.func43, Try.ntmps43
  go_wp2_with fail
  go_loopg [4, 5, 6, 7] n (fun gk kv fv iv pv wr => ∃ (k : Nat) (acc : Option (List UInt8)), k + gk = n ∧ iv = .int .i64 k ∧ kv = str (accK acc) ∧ fv = .bool acc.isSome ∧ (accK acc).length ≤ 1000000 ∧ (ss.take k).foldl (abvS after) none = acc ∧ Keep w wr)
  case atStart => exact ⟨0, none, by omega, rfl, rfl, rfl, by simp [accK], rfl, Keep.refl _⟩
  case round => as_aux_lemma =>
    obtain ⟨k, acc, hkk, rfl, rfl, rfl, hal, hf, kw⟩ := hrel
    have HK := Hid.mk hkk
    clear hkk
    have hc' := kw.cell hc
    by_cases hlt : k < n
    · have i1 : (k : Int) < n := by omega
      have hks : k < ss.length := by have := HN.out; omega
      have HF : Hid ((ss.take (k + 1)).foldl (abvS after) none = abvS after acc ss[k]) := Hid.mk (by rw [List.take_succ_eq_append_getElem hks, List.foldl_append, hf]; rfl)
      clear hf
      obtain ⟨s0, s1, s2, s3⟩ := Slots.at (Arr.keep hS kw) k hks
      have hkl := hk _ (List.getElem_mem hks)
      have hs2 := hst _ (List.getElem_mem hks)
      generalize ss[k] = S at *
      obtain ⟨st, sh, sk, sv, es⟩ := S
      simp only at s0 s1 s2 s3 hkl hs2
      by_cases e1 : st = 1
      · have t1 : (((st : Nat) : Int) != 1) = false := by simp [e1]
        have t1' : (((st : Nat) : Int) == 1) = true := by simp [e1]
        have LA := fun W => lessBytes_c after sk W ha hkl
        cases hl1 : lessB after sk with
        | false =>
          have HF2 : Hid ((ss.take (k + 1)).foldl (abvS after) none = acc) := Hid.mk (by rw [HF.out]; exact abvS_skip (fun h => by rw [hl1] at h; cases h.2))
          rw [hl1] at LA
          clear e1 HF
          go_wp2_with fail
          refine (LA _).mono ?_
          rintro e w1 ⟨rfl, k1⟩
          go_wp2_with fail
          go_roundg (n - (k + 1))
          case measure => have := HK.out; omega
          case rel => exact ⟨k + 1, acc, by omega, by go_num, rfl, rfl, hal, HF2.out, kw.trans k1⟩
        | true =>
          rw [hl1] at LA
          cases acc with
          | none =>
            have HF2 : Hid ((ss.take (k + 1)).foldl (abvS after) none = some sk) := Hid.mk (by rw [HF.out]; exact abvS_first ⟨e1, hl1⟩)
            clear e1 HF
            have q : (none : Option (List UInt8)).isSome = false := rfl
            go_wp2_with fail
            refine (LA _).mono ?_
            rintro e w1 ⟨rfl, k1⟩
            have s2' := k1.cell s2
            go_wp2_with fail
            go_roundg (n - (k + 1))
            case measure => have := HK.out; omega
            case rel => exact ⟨k + 1, some sk, by omega, by go_num, rfl, rfl, hkl, HF2.out, kw.trans k1⟩
          | some bk =>
            have HF2 : Hid ((ss.take (k + 1)).foldl (abvS after) none = if lessB sk bk = true then some sk else some bk) := Hid.mk (by rw [HF.out]; exact abvS_next ⟨e1, hl1⟩)
            have q : (some bk : Option (List UInt8)).isSome = true := rfl
            have qk : accK (some bk) = bk := rfl
            have LB := fun W => lessBytes_c sk bk W hkl hal
            clear e1 HF
            cases hl2 : lessB sk bk with
            | true =>
              rw [hl2] at LB HF2
              have HF3 : Hid ((ss.take (k + 1)).foldl (abvS after) none = some sk) := Hid.mk (by rw [HF2.out]; rfl)
              clear HF2
              go_wp2_with fail
              refine (LA _).mono ?_
              rintro e w1 ⟨rfl, k1⟩
              have s2' := k1.cell s2
              go_wp2_with fail
              refine (LB _).mono ?_
              rintro e w2 ⟨rfl, k2⟩
              have s2'' := k2.cell s2'
              go_wp2_with fail
              go_roundg (n - (k + 1))
              case measure => have := HK.out; omega
              case rel => exact ⟨k + 1, some sk, by omega, by go_num, rfl, rfl, hkl, HF3.out, (kw.trans k1).trans k2⟩
            | false =>
              rw [hl2] at LB HF2
              have HF3 : Hid ((ss.take (k + 1)).foldl (abvS after) none = some bk) := Hid.mk (by rw [HF2.out]; rfl)
              clear HF2
              go_wp2_with fail
              refine (LA _).mono ?_
              rintro e w1 ⟨rfl, k1⟩
              have s2' := k1.cell s2
              go_wp2_with fail
              refine (LB _).mono ?_
              rintro e w2 ⟨rfl, k2⟩
              go_wp2_with fail
              go_roundg (n - (k + 1))
              case measure => have := HK.out; omega
              case rel => exact ⟨k + 1, some bk, by omega, by go_num, rfl, rfl, hal, HF3.out, (kw.trans k1).trans k2⟩
      · have t1 : (((st : Nat) : Int) != 1) = true := by simp; omega
        have t1' : (((st : Nat) : Int) == 1) = false := by simp; omega
        have HF2 : Hid ((ss.take (k + 1)).foldl (abvS after) none = acc) := Hid.mk (by rw [HF.out]; exact abvS_skip (fun h => e1 h.1))
        clear e1 HF
        go_wp2_with fail
        go_roundg (n - (k + 1))
        case measure => have := HK.out; omega
        case rel => exact ⟨k + 1, acc, by omega, by go_num, rfl, rfl, hal, HF2.out, kw⟩
    · have i1 : ¬ (k : Int) < n := by omega
      have HF2 : Hid (aboveF ss after = acc) := Hid.mk (by rw [List.take_of_length_le (by have := HN.out; omega)] at hf; exact hf)
      clear hf
      go_wp2_with fail
      go_ret2
      rw [HF2.out]
      exact ⟨rfl, kw⟩
end Go.Proofs.Qxb6500766a
