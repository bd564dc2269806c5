import Derived.Test.Qxb6500770aRows
import Derived.Test.Qxb6500770aMem
namespace Go.Proofs.Qxb6500770a
open Go.RowKit Go.Qm
set_option linter.unusedVariables false
set_option linter.unusedSimpArgs false

theorem take_eq_succ {la lb : List UInt8} {k : Nat} (h1 : k < la.length) (h2 : k < lb.length) (ht : la.take k = lb.take k) (hk : la[k] = lb[k]) : la.take (k + 1) = lb.take (k + 1) := by
  rw [List.take_succ_eq_append_getElem h1, List.take_succ_eq_append_getElem h2, ht, hk]
theorem u8_bne {a b : UInt8} (h : ((a.toNat : Int) != (b.toNat : Int)) = false) : a = b := by
  have : (a.toNat : Int) = b.toNat := by simpa using h
  exact UInt8.toNat_inj.1 (by omega)
theorem ne_of_bne {la lb : List UInt8} {k : Nat} (h1 : k < la.length) (h2 : k < lb.length) (h : ((la[k].toNat : Int) != (lb[k].toNat : Int)) = true) : la ≠ lb := by
  intro e
  subst e
  simp at h

set_option maxHeartbeats 400000 in
theorem same_c (v v' : Value) (la lb : List UInt8) (w : World) (ha : Bs w v la) (hb : Bs w v' lb) :
    Calls Try.prog 9 #[v, v'] w fun e w' => e = .returned (.bool (decide (la = lb))) ∧ Keep w w' := by
  obtain ⟨a, c, rfl, hac, hcm, hca⟩ := ha.form
  obtain ⟨a', c', rfl, hac', hcm', hcb⟩ := hb.form
  unfold maxLen at hcm hcm'
  by_cases hne : la.length = lb.length
  · go_enter Try.func9, Try.ntmps9
    go_wp2
    go_loopw [5] (fun i wr => ∃ k : Nat, k ≤ la.length ∧ i = .int .i64 k ∧ la.take k = lb.take k ∧ Keep w wr) (fun i _ => la.length - (intOf i).toNat)
    case atStart => exact ⟨0, by omega, rfl, by simp, Keep.refl _⟩
    case round =>
      obtain ⟨k, hk, rfl, ht, kw⟩ := hrel
      by_cases hlt : k < la.length
      · obtain ⟨b, o, rfl, h1⟩ := hca k hlt
        obtain ⟨b', o', rfl, h2⟩ := hcb k (by omega)
        replace h1 := kw.cell h1
        replace h2 := kw.cell h2
        have hlt' : (k : Int) < la.length := by omega
        have hg : (0 : Int) ≤ k := by omega
        go_wp2
        go_quiet (fail)
        go_wp2
        · go_ret
          exact ⟨ret_bool (decide_eq_false (ne_of_bne hlt (by omega) (by assumption))).symm, kw.drewN _⟩
        · go_roundw
          case rel => exact ⟨k + 1, by omega, by go_num, take_eq_succ _ _ ht (u8_bne (by assumption)), kw.drewN _⟩
          case measure => simp [intOf]; omega
      · go_wp2
        go_ret
        exact ⟨ret_bool (decide_eq_true (by rwa [List.take_of_length_le (by omega), List.take_of_length_le (by omega)] at ht)).symm, kw⟩
  · have hne' : ((la.length : Int) != (lb.length : Int)) = true := by simp; omega
    go_enter Try.func9, Try.ntmps9
    go_wp2
    go_ret
    exact ⟨ret_bool (decide_eq_false (fun e => hne (by rw [e]))).symm, Keep.refl _⟩
end Go.Proofs.Qxb6500770a
