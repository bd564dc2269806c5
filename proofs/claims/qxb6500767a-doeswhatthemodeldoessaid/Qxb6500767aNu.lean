/- api: Same, of two answers that are alike. -/
import Derived.Test.Qxb6500767aNb
import Derived.Test.Qxb6500767aHe
import Derived.Test.Qxb6500767aId
namespace Go.Proofs.Qxb6500767a
open Go.RowKit Go.Qm
set_option linter.unusedVariables false
set_option linter.unusedSimpArgs false
attribute [local go_sem ↓] Go.wp_at_zero Go.wp_at_succ
set_option maxRecDepth 6000 in
set_option maxHeartbeats 8000000 in
theorem same_c (a : AnsV) (v1 v2 : Value) {B1 B2 : Nat} (w : World) (h1 : DirO B1 w v1 a.page) (h2 : DirO B2 w v2 a.page) :
    Calls Try.prog 13 #[.agg (ansC a v1).toArray, .agg (ansC a v2).toArray] w fun e w' => e = .returned (.bool true) ∧ Keep w w' := by
  have H1 := Hid.mk h1
  have H2 := Hid.mk h2
  obtain ⟨p1, c1, hv1, l1, m1⟩ := h1.slice
  obtain ⟨p2, c2, hv2, l2, m2⟩ := h2.slice
  subst hv1 hv2
  obtain ⟨aE, aN, aD, ⟨sI, sK, sM, sL, sS⟩, aP⟩ := a
  simp only at H1 H2 l1 l2
  unfold maxLen at m1 m2
  have s1 : (aD != aD) = false := by simp
  have s2 : (aD == aD) = true := by simp
  clear h1 h2
  simp only [ansC]
  go_enter Try.func13, Try.ntmps13
  go_wp2_with fail
  obtain ⟨w1, hw1⟩ : ∃ w1, w1 = (w.alloc (.cells #[.int .i64 aE, .int .i64 aN, str aD, .int .i64 (sI : Nat), .int .i64 (sK : Nat), .int .i64 sM, .int .i64 (sL : Nat), .int .i64 (sS : Nat), .slice p1 aP.length c1] 34)).alloc (.cells #[.int .i64 aE, .int .i64 aN, str aD, .int .i64 (sI : Nat), .int .i64 (sK : Nat), .int .i64 sM, .int .i64 (sL : Nat), .int .i64 (sS : Nat), .slice p2 aP.length c2] 34) := ⟨_, rfl⟩
  rw [← hw1]
  have k1 : Keep w w1 := by rw [hw1]; exact ((Keep.refl w).alloc _).alloc _
  have A1 : Arr w1 w.heap.size 34 [.int .i64 aE, .int .i64 aN, str aD, .int .i64 (sI : Nat), .int .i64 (sK : Nat), .int .i64 sM, .int .i64 (sL : Nat), .int .i64 (sS : Nat), .slice p1 aP.length c1] := by rw [hw1]; exact (Arr.new w 34 [.int .i64 aE, .int .i64 aN, str aD, .int .i64 (sI : Nat), .int .i64 (sK : Nat), .int .i64 sM, .int .i64 (sL : Nat), .int .i64 (sS : Nat), .slice p1 aP.length c1]).keep ((Keep.refl _).alloc _)
  have A2 : Arr w1 (w.heap.size + 1) 34 [.int .i64 aE, .int .i64 aN, str aD, .int .i64 (sI : Nat), .int .i64 (sK : Nat), .int .i64 sM, .int .i64 (sL : Nat), .int .i64 (sS : Nat), .slice p2 aP.length c2] := by
    have := Arr.new (w.alloc (.cells #[.int .i64 aE, .int .i64 aN, str aD, .int .i64 (sI : Nat), .int .i64 (sK : Nat), .int .i64 sM, .int .i64 (sL : Nat), .int .i64 (sS : Nat), .slice p1 aP.length c1] 34)) 34 [.int .i64 aE, .int .i64 aN, str aD, .int .i64 (sI : Nat), .int .i64 (sK : Nat), .int .i64 sM, .int .i64 (sL : Nat), .int .i64 (sS : Nat), .slice p2 aP.length c2]
    rw [show (w.alloc (.cells #[.int .i64 aE, .int .i64 aN, str aD, .int .i64 (sI : Nat), .int .i64 (sK : Nat), .int .i64 sM, .int .i64 (sL : Nat), .int .i64 (sS : Nat), .slice p1 aP.length c1] 34)).heap.size = w.heap.size + 1 by simp] at this
    rw [hw1]
    exact this
  have HA1 := Hid.mk A1
  have HA2 := Hid.mk A2
  have HK1 := Hid.mk k1
  clear hw1 A1 A2 k1
  go_loopg [5] aP.length (fun gk v5 wr => ∃ k : Nat, k + gk = aP.length ∧ v5 = .int .i64 k ∧ Keep w1 wr)
  case atStart => exact ⟨0, by omega, rfl, Keep.refl _⟩
  case round =>
    obtain ⟨k, hk, rfl, kw⟩ := hrel
    have y1 : wr.cell? ⟨w.heap.size, 8, none⟩ = some (.slice p1 aP.length c1) := (HA1.out.keep kw).cell 8
    have y2 : wr.cell? ⟨w.heap.size + 1, 8, none⟩ = some (.slice p2 aP.length c2) := (HA2.out.keep kw).cell 8
    have HKW := Hid.mk kw
    by_cases hlt : k < aP.length
    · have j1 : (k : Int) < aP.length := by omega
      have j2 : (0 : Int) ≤ k := by omega
      have hne : aP ≠ [] := fun e => by rw [e] at hlt; simp at hlt
      obtain ⟨g1, q1, e1, -, -⟩ := H1.out.shape hne
      obtain ⟨g2, q2, e2, -, -⟩ := H2.out.shape hne
      injection e1 with e1 e1b e1c
      injection e2 with e2 e2b e2c
      subst e1 e2 e1c e2c
      clear e1b e2b
      have G1 := H1.out.get rfl hlt
      have G2 := H2.out.get rfl hlt
      have kk := HK1.out.trans kw
      obtain ⟨d0, d1, d2, d3⟩ := G1
      obtain ⟨f0, f1, f2, f3⟩ := G2
      replace d0 := kk.cell d0
      replace d1 := kk.cell d1
      replace d2 := kk.cell d2
      replace d3 := kk.cell d3
      replace f0 := kk.cell f0
      replace f1 := kk.cell f1
      replace f2 := kk.cell f2
      replace f3 := kk.cell f3
      generalize aP[k].key = ky at *
      generalize aP[k].name = nm at *
      generalize aP[k].kind = kd at *
      generalize aP[k].ino = io at *
      have t1 : (ky != ky) = false := by simp
      have t2 : (ky == ky) = true := by simp
      have t3 : (nm != nm) = false := by simp
      have t4 : (nm == nm) = true := by simp
      clear hne kw kk
      go_upto_region 6 with fail
      go_quiet (fail)
      go_wp2_with fail
      go_roundg (gk - 1)
      case measure => omega
      case rel => exact ⟨k + 1, by omega, by go_num, HKW.out.drewN _⟩
    · have j1 : ¬ (k : Int) < aP.length := by omega
      go_wp2_with fail
      go_ret
      exact ⟨rfl, HK1.out.trans HKW.out⟩
end Go.Proofs.Qxb6500767a
