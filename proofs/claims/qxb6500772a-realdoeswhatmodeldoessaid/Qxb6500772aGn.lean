/- blastlaw: force. -/
import Derived.Test.Qxb6500772aGg
import Derived.BigRegion
namespace Go.Proofs.Qxb6500772a
open Go Go.RowKit Go.Qm
set_option linter.unusedVariables false
set_option linter.unusedSimpArgs false
attribute [local go_sem ↓] Go.wp_at_zero Go.wp_at_succ
def FOut (w : World) (g o : Nat) (v : Int) (U : Nat) (ka : Option Addr) (n kc : Nat) (w' : World) : Prop := Keep w w' ∨ ∃ j val, ((j < 6 ∧ j ≠ 3 ∧ val = .int .i64 v) ∨ (j = 3 ∧ val = .int .u64 (U : Int)) ∨ (j = 6 ∧ 0 < n ∧ val = .slice ka (n - 1) kc)) ∧ (w' = w.setCell ⟨g, o + j, none⟩ val ∨ w' = (w.setCell ⟨g, o + j, none⟩ val).drew)
set_option maxRecDepth 4000 in
set_option maxHeartbeats 4000000 in
theorem force_c {w : World} {g o : Nat} {fld v : Int} {k wd op c l : Int} {u U : Nat} {ka : Option Addr} {n kc : Nat}
    (c0 : w.cell? ⟨g, o, none⟩ = some (.int .i64 k)) (c1 : w.cell? ⟨g, o + 1, none⟩ = some (.int .i64 wd)) (c2 : w.cell? ⟨g, o + 2, none⟩ = some (.int .i64 op)) (c3 : w.cell? ⟨g, o + 3, none⟩ = some (.int .u64 (u : Nat))) (c4 : w.cell? ⟨g, o + 4, none⟩ = some (.int .i64 c)) (c5 : w.cell? ⟨g, o + 5, none⟩ = some (.int .i64 l)) (c6 : w.cell? ⟨g, o + 6, none⟩ = some (.slice ka n kc))
    (f0 : w.frozen? ⟨g, o, none⟩ = false) (f1 : w.frozen? ⟨g, o + 1, none⟩ = false) (f2 : w.frozen? ⟨g, o + 2, none⟩ = false) (f3 : w.frozen? ⟨g, o + 3, none⟩ = false) (f4 : w.frozen? ⟨g, o + 4, none⟩ = false) (f5 : w.frozen? ⟨g, o + 5, none⟩ = false) (f6 : w.frozen? ⟨g, o + 6, none⟩ = false)
    (hn : n ≤ kc) (hkc : kc ≤ maxLen) (hU : IntKind.u64.wrap v = (U : Int)) :
    Calls Try.prog 52 #[.pointer (some ⟨g, o, none⟩), .int .i64 fld, .int .i64 v] w fun e w' => e = .returned (.tuple #[]) ∧ FOut w g o v U ka n kc w' := by
  by_cases d0 : fld = 0
  · subst d0
    clear c1 f1 c2 f2 c3 f3 c4 f4 c5 f5 c6 f6 hn hkc hU
    go_enter Try.func52, Try.ntmps52
    go_wp2_with fail
    go_end0
    exact ⟨rfl, Or.inr ⟨0, _, Or.inl ⟨by decide, by decide, rfl⟩, Or.inl rfl⟩⟩
  by_cases d1 : fld = 1
  · subst d1
    clear c0 f0 c2 f2 c3 f3 c4 f4 c5 f5 c6 f6 hn hkc hU
    go_enter Try.func52, Try.ntmps52
    go_wp2_with fail
    go_end0
    exact ⟨rfl, Or.inr ⟨1, _, Or.inl ⟨by decide, by decide, rfl⟩, Or.inl rfl⟩⟩
  by_cases d2 : fld = 2
  · subst d2
    clear c0 f0 c1 f1 c3 f3 c4 f4 c5 f5 c6 f6 hn hkc hU
    go_enter Try.func52, Try.ntmps52
    go_wp2_with fail
    go_end0
    exact ⟨rfl, Or.inr ⟨2, _, Or.inl ⟨by decide, by decide, rfl⟩, Or.inl rfl⟩⟩
  by_cases d3 : fld = 3
  · subst d3
    clear c0 f0 c1 f1 c2 f2 c4 f4 c5 f5 c6 f6 hn hkc 
    go_enter Try.func52, Try.ntmps52
    go_wp2_with fail
    go_end0
    exact ⟨rfl, Or.inr ⟨3, _, Or.inr (Or.inl ⟨rfl, rfl⟩), Or.inl rfl⟩⟩
  by_cases d4 : fld = 4
  · subst d4
    clear c0 f0 c1 f1 c2 f2 c3 f3 c5 f5 c6 f6 hn hkc hU
    go_enter Try.func52, Try.ntmps52
    go_wp2_with fail
    go_end0
    exact ⟨rfl, Or.inr ⟨4, _, Or.inl ⟨by decide, by decide, rfl⟩, Or.inl rfl⟩⟩
  by_cases d5 : fld = 5
  · subst d5
    clear c0 f0 c1 f1 c2 f2 c3 f3 c4 f4 c6 f6 hn hkc hU
    go_enter Try.func52, Try.ntmps52
    go_wp2_with fail
    go_end0
    exact ⟨rfl, Or.inr ⟨5, _, Or.inl ⟨by decide, by decide, rfl⟩, Or.inl rfl⟩⟩
  by_cases d6 : fld = 6
  · subst d6
    clear c0 f0 c1 f1 c2 f2 c3 f3 c4 f4 c5 f5 hU
    unfold maxLen at hkc
    by_cases hz : n = 0
    · subst hz
      have j0 : ¬ ((0 : Int) < ((0 : Nat) : Int)) := by omega
      go_enter Try.func52, Try.ntmps52
      go_wp2_with fail
      go_end0
      exact ⟨rfl, Or.inl (Keep.refl w)⟩
    · obtain ⟨m, rfl⟩ : ∃ m, n = m + 1 := ⟨n - 1, by omega⟩
      have HN : Hid (m + 1 ≤ kc) := Hid.mk hn
      obtain ⟨M, hM⟩ : ∃ M, M = m + 1 := ⟨_, rfl⟩
      rw [← hM] at c6 hn
      have j0 : (0 : Int) < (M : Int) := by omega
      have wn : IntKind.i64.wrap ((M : Int) - 1) = (m : Int) := by rw [IntKind.wrap_i64]; omega
      have i2 : (0 : Int) ≤ m := by omega
      have i3 : (m : Int) ≤ kc := by omega
      have hcap : (kc : Int) ≤ 9223372036854775807 := by omega
      have HM := Hid.mk hM
      clear hM hn hkc hz
      go_enter Try.func52, Try.ntmps52
      go_upto_region 15 with fail
      go_region
      go_wp2_with fail
      go_end0
      exact ⟨rfl, Or.inr ⟨6, _, Or.inr (Or.inr ⟨rfl, by omega, rfl⟩), Or.inr rfl⟩⟩
  · clear c0 f0 c1 f1 c2 f2 c3 f3 c4 f4 c5 f5 c6 f6 hU hn hkc
    have e0 : ¬ fld = 0 := d0
    go_enter Try.func52, Try.ntmps52
    go_wp2_with fail
    go_end0
    exact ⟨rfl, Or.inl (Keep.refl w)⟩
end Go.Proofs.Qxb6500772a
