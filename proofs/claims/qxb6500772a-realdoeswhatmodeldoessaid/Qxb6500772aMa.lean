/- blastm: SameState. -/
import Derived.Test.Qxb6500772aEd
import Derived.Test.Qxb6500772aIa
import Derived.Test.Qxb6500772aTc
import Derived.BigQuiet
namespace Go.Proofs.Qxb6500772a
open Go.RowKit Go.Qm
set_option linter.unusedVariables false
set_option linter.unusedSimpArgs false
attribute [local go_sem ↓] Go.wp_at_zero Go.wp_at_succ
def sameF (cels : List Cel) (S T : PS) : Bool := allC cels (fun c i => c.inp || decide (S.at i = T.at i)) cels.length && decide (S.fault = T.fault)
theorem allC_false {cels : List Cel} {p : Cel → Nat → Bool} {k : Nat} (hk : k < cels.length) (h : p cels[k] k = false) : allC cels p cels.length = false := by
  have h1 : ∀ n, k < n → n ≤ cels.length → allC cels p n = false := by
    intro n
    induction n with
    | zero => intro h; omega
    | succ n ih =>
      intro h2 h3
      rw [allC_next cels p n (by omega)]
      by_cases e : n = k
      · subst e; rw [h]; simp
      · rw [ih (by omega) (by omega)]; rfl
  exact h1 _ hk (Nat.le_refl _)
theorem vs_at {w : World} {a : Option Addr} {m c : Nat} {S : PS} (h : Vs w (.slice a m c) S.cells) {i : Nat} (hi : i < S.cells.length) : ∃ b o, a = some ⟨b, o, none⟩ ∧ w.cell? ⟨b, o + i, none⟩ = some (.int .u64 ((S.at i : Nat) : Int)) := by
  obtain ⟨b, o, e, hc⟩ := Vs.cell h hi
  refine ⟨b, o, e, ?_⟩
  rw [hc]
  simp [PS.at, List.getD_eq_getElem?_getD, hi]
set_option maxRecDepth 4000 in
set_option maxHeartbeats 4000000 in
theorem sameS_c {P : Nat → Prop} {w : World} {cels : List Cel} {cv bv kv : Value} {f : EF} {sa ta : Option Addr} {sc tc : Nat} {S T : PS} (hcl : cels.length ≤ 1000000) (hc : CsW P w cv cels) (hbv : isSl bv) (hkv : isSl kv) (hs : Vs w (.slice sa S.cells.length sc) S.cells) (ht : Vs w (.slice ta T.cells.length tc) T.cells) (h1 : S.cells.length = cels.length) (h2 : T.cells.length = cels.length) :
    Calls Try.prog 47 #[prA cv bv f kv, .agg #[.slice sa S.cells.length sc, .bool S.fault], .agg #[.slice ta T.cells.length tc, .bool T.fault]] w fun e w' => e = .returned (.bool (sameF cels S T)) ∧ Keep w w' := by
  obtain ⟨pa, pc, rfl, pc1, pc2⟩ := hc.form
  obtain ⟨ba, bm, bc, rfl⟩ := hbv
  obtain ⟨ka, km, kc, rfl⟩ := hkv
  unfold maxLen at pc2
  simp only [prA]
  obtain ⟨W1, hW1⟩ : ∃ W1, W1 = w.alloc (.cells #[.slice pa cels.length pc, .slice ba bm bc, .int .i64 f.k, .int .i64 f.w, .int .i64 f.o, .int .u64 (f.v : Nat), .int .i64 f.c, .int .i64 f.l, .slice ka km kc] 33) := ⟨_, rfl⟩
  obtain ⟨W2, hW2⟩ : ∃ W2, W2 = W1.alloc (.cells #[.slice sa S.cells.length sc, .bool S.fault] 37) := ⟨_, rfl⟩
  obtain ⟨W, hW⟩ : ∃ W, W = W2.alloc (.cells #[.slice ta T.cells.length tc, .bool T.fault] 37) := ⟨_, rfl⟩
  have k1 : Keep w W1 := by rw [hW1]; exact (Keep.refl w).alloc _
  have k2 : Keep W1 W2 := by rw [hW2]; exact (Keep.refl W1).alloc _
  have k3 : Keep W2 W := by rw [hW]; exact (Keep.refl W2).alloc _
  have z1 : W1.heap.size = w.heap.size + 1 := by rw [hW1]; simp
  have z2 : W2.heap.size = w.heap.size + 2 := by rw [hW2]; simp [z1]
  have a3 : Arr W1 w.heap.size 33 [.slice pa cels.length pc, .slice ba bm bc, .int .i64 f.k, .int .i64 f.w, .int .i64 f.o, .int .u64 (f.v : Nat), .int .i64 f.c, .int .i64 f.l, .slice ka km kc] := by rw [hW1]; exact Arr.new w 33 _
  have a4 : Arr W2 (w.heap.size + 1) 37 [.slice sa S.cells.length sc, .bool S.fault] := by rw [← z1, hW2]; exact Arr.new W1 37 _
  have a5 : Arr W (w.heap.size + 2) 37 [.slice ta T.cells.length tc, .bool T.fault] := by rw [← z2, hW]; exact Arr.new W2 37 _
  have HA4 := Hid.mk (a4.keep k3)
  have HA5 := Hid.mk a5
  have p0 : W.cell? ⟨w.heap.size, 0, none⟩ = some (.slice pa cels.length pc) := ((a3.keep k2).keep k3).cell 0
  have HK := Hid.mk ((k1.trans k2).trans k3)
  have HC := Hid.mk hc
  have HS := Hid.mk hs
  have HT := Hid.mk ht
  have H1 := Hid.mk h1
  have H2 := Hid.mk h2
  have li : (cels.length : Int) ≤ 1000000 := by omega
  clear k1 k2 k3 z1 z2 a3 a4 a5 hc hs ht h1 h2
  go_enter Try.func47, Try.ntmps47
  go_upto_region 1 with fail
  rw [← hW1, ← hW2, ← hW]
  clear hW1 hW2 hW
  obtain ⟨g5, hg5⟩ : ∃ g5, g5 = w.heap.size + 2 := ⟨_, rfl⟩
  obtain ⟨g4, hg4⟩ : ∃ g4, g4 = w.heap.size + 1 := ⟨_, rfl⟩
  obtain ⟨g3, hg3⟩ : ∃ g3, g3 = w.heap.size := ⟨_, rfl⟩
  first | rw [← hg5] at HA5 ⊢ | (rw [← hg5] at HA5; simp only [Nat.add_assoc, Nat.reduceAdd]; rw [← hg5])
  rw [← hg4] at HA4 ⊢
  rw [← hg3] at p0 ⊢
  clear hg3 hg4 hg5
  go_wp2_with fail
  clear p0
  go_loopg [12] cels.length (fun gk v12 wr => ∃ (k : Nat), k + gk = cels.length ∧ v12 = .int .i64 k ∧ Keep W wr ∧ allC cels (fun c i => c.inp || decide (S.at i = T.at i)) k = true)
  case atStart => exact ⟨0, by omega, rfl, Keep.refl W, by simp [allC]⟩
  case round =>
    obtain ⟨k, hk, rfl, kp, hall⟩ := hrel
    have HKK := Hid.mk hk
    have HKP := Hid.mk kp
    have HALL := Hid.mk hall
    clear hk hall
    by_cases hlt : k < cels.length
    · have j1 : (k : Int) < cels.length := by omega
      have j2 : (0 : Int) ≤ k := by omega
      obtain ⟨cb, co, hca, hcel⟩ := (HC.out.step (KP.of (HK.out.trans kp))).cell hlt
      subst hca
      have c0 := hcel 0 (by decide)
      have c1 := hcel 1 (by decide)
      have c2 := hcel 2 (by decide)
      have c3 := hcel 3 (by decide)
      have c4 := hcel 4 (by decide)
      simp only [celC, List.getElem?_cons_zero, List.getElem?_cons_succ, Nat.add_zero] at c0 c1 c2 c3 c4
      have HNX : Hid (allC cels (fun c i => c.inp || decide (S.at i = T.at i)) (k + 1) = (allC cels (fun c i => c.inp || decide (S.at i = T.at i)) k && (cels[k].inp || decide (S.at k = T.at k)))) := Hid.mk (allC_next _ _ k hlt)
      have HFL : Hid ((cels[k].inp || decide (S.at k = T.at k)) = false → allC cels (fun c i => c.inp || decide (S.at i = T.at i)) cels.length = false) := Hid.mk (fun h => allC_false (p := fun c i => c.inp || decide (S.at i = T.at i)) hlt h)
      generalize cels[k] = x at *
      obtain ⟨Z, hZ⟩ : ∃ Z, Z = wr.alloc (.cells #[.int .i64 x.w, .bool x.inp, .int .u64 (x.ini : Nat), .int .i64 x.lo, .int .i64 x.hi] 70) := ⟨_, rfl⟩
      have kZ : Keep wr Z := by rw [hZ]; exact (Keep.refl wr).alloc _
      have aZ : Arr Z wr.heap.size 70 [.int .i64 x.w, .bool x.inp, .int .u64 (x.ini : Nat), .int .i64 x.lo, .int .i64 x.hi] := by rw [hZ]; exact Arr.new wr 70 _
      have z1 : Z.cell? ⟨wr.heap.size, 1, none⟩ = some (.bool x.inp) := aZ.cell 1
      have HKZ := Hid.mk (kp.trans kZ)
      have s0 : Z.cell? ⟨g4, 0, none⟩ = some (.slice sa S.cells.length sc) := (HA4.out.keep (kp.trans kZ)).cell 0
      have t0 : Z.cell? ⟨g5, 0, none⟩ = some (.slice ta T.cells.length tc) := (HA5.out.keep (kp.trans kZ)).cell 0
      rw [H1.out] at s0
      rw [H2.out] at t0
      obtain ⟨sb, so, hsa, s1⟩ := vs_at (Sl.keep HS.out (HK.out.trans (kp.trans kZ))) (i := k) (by rw [H1.out]; exact hlt)
      obtain ⟨tb, to', hta, t1⟩ := vs_at (Sl.keep HT.out (HK.out.trans (kp.trans kZ))) (i := k) (by rw [H2.out]; exact hlt)
      subst hsa hta
      clear hcel kp kZ aZ
      go_upto_region 4 with fail
      rw [← hZ]
      generalize wr.heap.size = gZ at *
      clear hZ c0 c1 c2 c3 c4
      generalize S.at k = a at *
      generalize T.at k = b at *
      rcases Bool.eq_false_or_eq_true x.inp with hin | hin
      · rw [hin] at z1 HNX HFL
        clear hin s0 s1 t0 t1
        go_quiet (fail)
        go_wp2_with fail
        go_roundg (gk - 1)
        case measure => have := HKK.out; omega
        case rel => exact ⟨k + 1, by have := HKK.out; omega, by go_num, HKZ.out.drewN _, by rw [HNX.out, HALL.out]; rfl⟩
      · rw [hin] at z1 HNX HFL
        clear hin
        by_cases hab : a = b
        · subst hab
          have ne : ((a : Int) != (a : Int)) = false := by simp
          go_quiet (fail)
          go_wp2_with fail
          go_roundg (gk - 1)
          case measure => have := HKK.out; omega
          case rel => exact ⟨k + 1, by have := HKK.out; omega, by go_num, HKZ.out.drewN _, by rw [HNX.out, HALL.out]; simp⟩
        · have ne : ((a : Int) != (b : Int)) = true := by simp; omega
          have HFL2 : Hid (sameF cels S T = false) := Hid.mk (by unfold sameF; rw [HFL.out (by simp [hab])]; rfl)
          clear hab HFL HNX
          go_quiet (fail)
          go_wp2_with fail
          go_ret
          exact ⟨by rw [HFL2.out]; rfl, (HK.out.trans HKZ.out).drewN _⟩
    · have j1 : ¬ (k : Int) < cels.length := by omega
      obtain rfl : k = cels.length := by have := HKK.out; omega
      have s0 : wr.cell? ⟨g4, 1, none⟩ = some (.bool S.fault) := (HA4.out.keep kp).cell 1
      have t0 : wr.cell? ⟨g5, 1, none⟩ = some (.bool T.fault) := (HA5.out.keep kp).cell 1
      have HR : Hid (sameF cels S T = (S.fault == T.fault)) := Hid.mk (by unfold sameF; rw [HALL.out]; cases S.fault <;> cases T.fault <;> rfl)
      generalize S.fault = a at *
      generalize T.fault = b at *
      clear kp
      go_wp2_with fail
      go_ret
      exact ⟨by rw [HR.out]; rfl, HK.out.trans HKP.out⟩
end Go.Proofs.Qxb6500772a
