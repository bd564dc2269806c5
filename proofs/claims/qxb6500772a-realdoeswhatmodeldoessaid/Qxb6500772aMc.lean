/- interpm: Legal. -/
import Derived.Test.Qxb6500772aMa
import Derived.Test.Qxb6500772aEe
namespace Go.Proofs.Qxb6500772a
open Go.RowKit Go.Qm
set_option linter.unusedVariables false
set_option linter.unusedSimpArgs false
attribute [local go_sem ↓] Go.wp_at_zero Go.wp_at_succ
set_option maxRecDepth 4000 in
set_option maxHeartbeats 4000000 in
theorem legM_c {P : Nat → Prop} {w : World} {cels : List Cel} {cv bv kv : Value} {f : EF} {sa : Option Addr} {sc : Nat} {S : PS} (hcl : cels.length ≤ 1000000) (hcw : ∀ c ∈ cels, 1 ≤ c.w ∧ c.w ≤ 64) (hc : CsW P w cv cels) (hbv : isSl bv) (hkv : isSl kv) (hs : Vs w (.slice sa S.cells.length sc) S.cells) (hok : StOK (cels.map (·.w)) S) :
    Calls Try.prog 83 #[prA cv bv f kv, .agg #[.slice sa S.cells.length sc, .bool S.fault]] w fun e w' => e = .returned (.bool (allC cels (legB S) cels.length)) ∧ Keep w w' := by
  obtain ⟨pa, pc, rfl, pc1, pc2⟩ := hc.form
  obtain ⟨ba, bm, bc, rfl⟩ := hbv
  obtain ⟨ka, km, kc, rfl⟩ := hkv
  unfold maxLen at pc2
  simp only [prA]
  obtain ⟨W1, hW1⟩ : ∃ W1, W1 = w.alloc (.cells #[.slice pa cels.length pc, .slice ba bm bc, .int .i64 f.k, .int .i64 f.w, .int .i64 f.o, .int .u64 (f.v : Nat), .int .i64 f.c, .int .i64 f.l, .slice ka km kc] 33) := ⟨_, rfl⟩
  obtain ⟨W, hW⟩ : ∃ W, W = W1.alloc (.cells #[.slice sa S.cells.length sc, .bool S.fault] 37) := ⟨_, rfl⟩
  have k1 : Keep w W1 := by rw [hW1]; exact (Keep.refl w).alloc _
  have k2 : Keep W1 W := by rw [hW]; exact (Keep.refl W1).alloc _
  have z1 : W1.heap.size = w.heap.size + 1 := by rw [hW1]; simp
  have a3 : Arr W1 w.heap.size 33 [.slice pa cels.length pc, .slice ba bm bc, .int .i64 f.k, .int .i64 f.w, .int .i64 f.o, .int .u64 (f.v : Nat), .int .i64 f.c, .int .i64 f.l, .slice ka km kc] := by rw [hW1]; exact Arr.new w 33 _
  have a4 : Arr W (w.heap.size + 1) 37 [.slice sa S.cells.length sc, .bool S.fault] := by rw [← z1, hW]; exact Arr.new W1 37 _
  have HA4 := Hid.mk a4
  have p0 : W.cell? ⟨w.heap.size, 0, none⟩ = some (.slice pa cels.length pc) := (a3.keep k2).cell 0
  have HK := Hid.mk (k1.trans k2)
  have HC := Hid.mk hc
  have HS := Hid.mk hs
  have HOK := Hid.mk hok
  have HCW := Hid.mk hcw
  have H1 : Hid (S.cells.length = cels.length) := Hid.mk (by have := hok.1; simpa using this)
  have li : (cels.length : Int) ≤ 1000000 := by omega
  clear k1 k2 z1 a3 a4 hc hs hok hcw
  go_enter Try.func83, Try.ntmps83
  go_upto_region 1 with fail
  rw [← hW1, ← hW]
  clear hW1 hW
  obtain ⟨g4, hg4⟩ : ∃ g4, g4 = w.heap.size + 1 := ⟨_, rfl⟩
  obtain ⟨g3, hg3⟩ : ∃ g3, g3 = w.heap.size := ⟨_, rfl⟩
  rw [← hg4] at HA4 ⊢
  rw [← hg3] at p0 ⊢
  clear hg3 hg4
  go_wp2_with fail
  clear p0
  go_loopg [10] cels.length (fun gk v10 wr => ∃ (k : Nat), k + gk = cels.length ∧ v10 = .int .i64 k ∧ Keep W wr ∧ allC cels (legB S) k = true)
  case atStart => exact ⟨0, by omega, rfl, Keep.refl W, by simp [allC]⟩
  case round =>
    obtain ⟨k, hk, rfl, kp, hall⟩ := hrel
    have HKK := Hid.mk hk
    have HKP := Hid.mk kp
    have HALL := Hid.mk hall
    clear hk hall
    by_cases hlt : k < cels.length
    · have j1 : (k : Int) < cels.length := by omega
      have j2 : (0 : Int) ≤ k := by omega
      obtain ⟨cb, co, hca, hcel⟩ := (HC.out.step (KP.of (HK.out.trans kp))).cell hlt
      subst hca
      have c0 := hcel 0 (by decide)
      have c1 := hcel 1 (by decide)
      have c2 := hcel 2 (by decide)
      have c3 := hcel 3 (by decide)
      have c4 := hcel 4 (by decide)
      simp only [celC, List.getElem?_cons_zero, List.getElem?_cons_succ, Nat.add_zero] at c0 c1 c2 c3 c4
      have HNX : Hid (allC cels (legB S) (k + 1) = (allC cels (legB S) k && legB S cels[k] k)) := Hid.mk (allC_next _ _ k hlt)
      have HFL : Hid (legB S cels[k] k = false → allC cels (legB S) cels.length = false) := Hid.mk (fun h => allC_false (p := legB S) hlt h)
      have hwk := HCW.out _ (List.getElem_mem hlt)
      have hsk : S.at k < 2 ^ cels[k].w.toNat := by
        have h9 := HOK.out.2 k (by simpa using hlt)
        rw [List.getD_eq_getElem?_getD (l := cels.map (·.w)), List.getElem?_map, List.getElem?_eq_getElem hlt] at h9
        exact h9
      generalize cels[k] = x at *
      obtain ⟨D, hD⟩ : ∃ D : Nat, x.w = D := ⟨x.w.toNat, by omega⟩
      have HLB : Hid (legB S x k = (!x.inp || (decide (x.lo ≤ sgn (S.at k) D) && decide (sgn (S.at k) D ≤ x.hi)))) := Hid.mk (by unfold legB; rw [hD]; rfl)
      rw [hD] at c0 hwk hsk
      rw [Int.toNat_natCast] at hsk
      have C : ∀ Z, Calls Try.prog 37 #[.int .u64 ((S.at k : Nat) : Int), .int .i64 ((D : Nat) : Int)] Z fun e w' => e = .returned (.int .i64 (sgn (S.at k) D)) ∧ w' = Z := signed_c (S.at k) D hsk (by omega) (by omega)
      obtain ⟨Z, hZ⟩ : ∃ Z, Z = wr.alloc (.cells #[.int .i64 (D : Nat), .bool x.inp, .int .u64 (x.ini : Nat), .int .i64 x.lo, .int .i64 x.hi] 70) := ⟨_, rfl⟩
      have kZ : Keep wr Z := by rw [hZ]; exact (Keep.refl wr).alloc _
      have aZ : Arr Z wr.heap.size 70 [.int .i64 (D : Nat), .bool x.inp, .int .u64 (x.ini : Nat), .int .i64 x.lo, .int .i64 x.hi] := by rw [hZ]; exact Arr.new wr 70 _
      have z0 : Z.cell? ⟨wr.heap.size, 0, none⟩ = some (.int .i64 (D : Nat)) := aZ.cell 0
      have z1 : Z.cell? ⟨wr.heap.size, 1, none⟩ = some (.bool x.inp) := aZ.cell 1
      have z3 : Z.cell? ⟨wr.heap.size, 3, none⟩ = some (.int .i64 x.lo) := aZ.cell 3
      have z4 : Z.cell? ⟨wr.heap.size, 4, none⟩ = some (.int .i64 x.hi) := aZ.cell 4
      have HKZ := Hid.mk (kp.trans kZ)
      have s0 : Z.cell? ⟨g4, 0, none⟩ = some (.slice sa S.cells.length sc) := (HA4.out.keep (kp.trans kZ)).cell 0
      rw [H1.out] at s0
      obtain ⟨sb, so, hsa, s1⟩ := vs_at (Sl.keep HS.out (HK.out.trans (kp.trans kZ))) (i := k) (by rw [H1.out]; exact hlt)
      subst hsa
      clear hcel kp kZ aZ hwk hsk hD
      go_upto_region 4 with fail
      rw [← hZ]
      generalize wr.heap.size = gZ at *
      clear hZ c0 c1 c2 c3 c4
      generalize S.at k = a at *
      generalize hsg : sgn a D = sg at *
      clear hsg
      rcases Bool.eq_false_or_eq_true x.inp with hin | hin
      · rw [hin] at z1 HLB
        clear hin
        by_cases h1 : sg < x.lo
        · have d1 : decide (sg < x.lo) = true := decide_eq_true h1
          have HFL2 : Hid (allC cels (legB S) cels.length = false) := Hid.mk (HFL.out (by rw [HLB.out]; simp; omega))
          clear HNX HFL
          go_quiet ((go_at_call 37; with_reducible refine Calls.quiet_of_same (C _)))
          go_wp2_with fail
          go_ret
          exact ⟨by rw [HFL2.out]; rfl, (HK.out.trans HKZ.out).drewN _⟩
        · have d1 : decide (sg < x.lo) = false := decide_eq_false h1
          by_cases h2 : x.hi < sg
          · have d2 : decide (x.hi < sg) = true := decide_eq_true h2
            have HFL2 : Hid (allC cels (legB S) cels.length = false) := Hid.mk (HFL.out (by rw [HLB.out]; simp; omega))
            clear HNX HFL
            go_quiet ((go_at_call 37; with_reducible refine Calls.quiet_of_same (C _)))
            go_wp2_with fail
            go_ret
            exact ⟨by rw [HFL2.out]; rfl, (HK.out.trans HKZ.out).drewN _⟩
          · have d2 : decide (x.hi < sg) = false := decide_eq_false h2
            have HT : Hid (legB S x k = true) := Hid.mk (by rw [HLB.out]; simp; omega)
            go_quiet ((go_at_call 37; with_reducible refine Calls.quiet_of_same (C _)))
            go_wp2_with fail
            go_roundg (gk - 1)
            case measure => have := HKK.out; omega
            case rel => exact ⟨k + 1, by have := HKK.out; omega, by go_num, HKZ.out.drewN _, by rw [HNX.out, HALL.out, HT.out]; rfl⟩
      · rw [hin] at z1 HLB
        have HT : Hid (legB S x k = true) := Hid.mk (by rw [HLB.out]; rfl)
        clear hin s0 s1 C z0 z3 z4
        go_quiet (fail)
        go_wp2_with fail
        go_roundg (gk - 1)
        case measure => have := HKK.out; omega
        case rel => exact ⟨k + 1, by have := HKK.out; omega, by go_num, HKZ.out.drewN _, by rw [HNX.out, HALL.out, HT.out]; rfl⟩
    · have j1 : ¬ (k : Int) < cels.length := by omega
      obtain rfl : k = cels.length := by have := HKK.out; omega
      clear kp
      go_wp2_with fail
      go_ret
      exact ⟨by rw [HALL.out]; rfl, HK.out.trans HKP.out⟩
end Go.Proofs.Qxb6500772a
