/- blastlaw: masked, widthOf. -/
import Derived.Test.Qxb6500772aGc
import Derived.Test.Qxb6500772aCj
namespace Go.Proofs.Qxb6500772a
open Go Go.RowKit Go.Qm
set_option linter.unusedVariables false
set_option linter.unusedSimpArgs false
attribute [local go_sem ↓] Go.wp_at_zero Go.wp_at_succ
theorem u64_nat (v : Int) : ∃ u : Nat, IntKind.u64.wrap v = (u : Int) ∧ u < 2 ^ 64 := by
  refine ⟨(v % 18446744073709551616).toNat, ?_, by omega⟩
  simp [IntKind.wrap, IntKind.signed, IntKind.bits]
  omega
set_option maxHeartbeats 2000000 in
theorem masked_c (v wd : Int) (w : World) : Calls Try.prog 49 #[.int .i64 v, .int .i64 wd] w fun e w' => (∃ u : Nat, e = .returned (.int .u64 ((u : Nat) : Int)) ∧ u < 2 ^ 64) ∧ w' = w := by
  obtain ⟨u, hu, hu64⟩ := u64_nat v
  by_cases h1 : wd < 1
  · have HU := Hid.mk hu64
    clear hu64
    go_enter Try.func49, Try.ntmps49
    go_wp2_with fail
    go_ret
    exact ⟨⟨u, rfl, HU.out⟩, rfl⟩
  · by_cases h2 : 64 < wd
    · have HU := Hid.mk hu64
      have h1' : ¬ (wd < 1) := h1
      clear hu64
      go_enter Try.func49, Try.ntmps49
      go_wp2_with fail
      go_ret
      exact ⟨⟨u, rfl, HU.out⟩, rfl⟩
    · obtain ⟨D, rfl⟩ : ∃ D : Nat, wd = D := ⟨wd.toNat, by omega⟩
      have hD : D ≤ 64 := by omega
      have LW := Hid.mk (low_i v hD w)
      have hb : (v % 2 ^ D).toNat < 2 ^ 64 := by
        have hc : ((2 ^ D : Nat) : Int) = (2 : Int) ^ D := by push_cast; rfl
        have hp := Nat.two_pow_pos D
        have hl := Nat.pow_le_pow_right (show 0 < 2 by decide) hD
        rw [← hc]
        have h3 := Int.emod_lt_of_pos v (b := ((2 ^ D : Nat) : Int)) (by omega)
        have h4 := Int.emod_nonneg v (b := ((2 ^ D : Nat) : Int)) (by omega)
        omega
      have HBB := Hid.mk hb
      generalize (v % 2 ^ D).toNat = z at *
      rw [hu] at LW
      clear hb hu64
      go_enter Try.func49, Try.ntmps49
      go_wp2_with fail
      refine LW.out.mono ?_
      rintro e y ⟨rfl, rfl⟩
      go_wp2_with fail
      go_ret
      exact ⟨⟨z, rfl, HBB.out⟩, rfl⟩
set_option maxHeartbeats 2000000 in
theorem widthOf_c {B : Nat} {P : Nat → Prop} {w : World} {gb : Nat} {cv xv sv pv nv : Value} {cels : List Cel} {es : List NE} {ss : List NS} {bad : NE} {cu nx : List (Int × Nat)} {cf : Bool} {nf : Int} (h : BB B P w gb cv xv sv pv nv cels es ss bad cu nx cf nf) (i : Int) : Calls Try.prog 50 #[.pointer (some ⟨gb, 0, none⟩), .int .i64 i] w fun e w' => (∃ z : Int, e = .returned (.int .i64 z) ∧ I64 z) ∧ w' = w := by
  have c0 : w.cell? ⟨gb, 0, none⟩ = some cv := h.ar.cell 0
  obtain ⟨ca, cm, cc, rfl⟩ := OwnS.isl h.oc
  by_cases h1 : i < 0
  · clear h
    go_enter Try.func50, Try.ntmps50
    go_wp2_with fail
    go_ret
    exact ⟨⟨1, rfl, by unfold I64; omega⟩, rfl⟩
  · rcases h.oc.form with ⟨e1, e2⟩ | ⟨g, cap, cur, e1, hB, hA, h5, h6, h7, h8⟩
    · injection e1 with e3 e4 e5
      subst e3 e4 e5
      have h2 : ¬ (i < 0) := h1
      have h3 : ((0 : Nat) : Int) ≤ i := by omega
      have h3' : (0 : Int) ≤ i := by omega
      clear h
      go_enter Try.func50, Try.ntmps50
      go_wp2_with fail
      go_ret
      exact ⟨⟨1, rfl, by unfold I64; omega⟩, rfl⟩
    · injection e1 with e3 e4 e5
      subst e3 e4 e5
      by_cases h3 : (cels.length : Int) ≤ i
      · have h2 : ¬ (i < 0) := h1
        clear h h8
        go_enter Try.func50, Try.ntmps50
        go_wp2_with fail
        go_ret
        exact ⟨⟨1, rfl, by unfold I64; omega⟩, rfl⟩
      · obtain ⟨k, rfl⟩ : ∃ k : Nat, i = k := ⟨i.toNat, by omega⟩
        have hk : k < cels.length := by omega
        have x0 := flat_take_get celC_len h8 k 0 hk (by omega)
        rw [Nat.add_zero] at x0
        have x1 := (hA.cell (k * 5)).trans x0
        have HW := Hid.mk (h.hc _ (List.getElem_mem hk)).w
        simp only [celC, List.getElem?_cons_zero] at x1
        have j1 : (k : Int) < cels.length := by omega
        have j2 : (0 : Int) ≤ k := by omega
        generalize cels[k].w = z at *
        clear h h8 x0
        go_enter Try.func50, Try.ntmps50
        go_wp2_with fail
        go_ret
        exact ⟨⟨z, rfl, HW.out⟩, rfl⟩
end Go.Proofs.Qxb6500772a
