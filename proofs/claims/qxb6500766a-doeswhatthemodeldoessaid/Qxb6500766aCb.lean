/- api: Same, of two answers that are alike. -/
import Derived.Test.Qxb6500766aTw
import Derived.Deep.CutRange
namespace Go.Proofs.Qxb6500766a
open Go.RowKit Go.Qm
set_option linter.unusedVariables false
set_option linter.unusedSimpArgs false
attribute [local go_sem ↓] Go.wp_at_zero Go.wp_at_succ
theorem ent_read {B : Nat} {w : World} {v : Value} {es : List Ent} (h : EntO B w v es) : ∃ a cap, v = .slice a es.length cap ∧ es.length ≤ cap ∧ cap ≤ 2 ^ 63 - 1 ∧ ∀ k (hk : k < es.length), ∃ g, a = some ⟨g, 0, none⟩ ∧ g < w.heap.size ∧ ∀ W : World, W.heap[g]? = w.heap[g]? → W.cell? ⟨g, k * 3, none⟩ = some (.int .i64 es[k].layer) ∧ W.cell? ⟨g, k * 3 + 1, none⟩ = some (str es[k].raw) ∧ W.cell? ⟨g, k * 3 + 2, none⟩ = some (.int .i64 es[k].kind) := by
  rcases h.form with ⟨rfl, rfl⟩ | ⟨g, cap, cur, rfl, hBg, hA, hnc, hcm, hcs, htk⟩
  · exact ⟨none, 0, rfl, Nat.le_refl _, by omega, fun k hk => by simp at hk⟩
  · refine ⟨_, cap, rfl, hnc, by unfold maxLen at hcm; exact hcm, fun k hk => ⟨g, rfl, hA.lt, fun W hW => ?_⟩⟩
    have hA' : Arr W g 64 cur := hW.trans hA
    have x0 := flat_take_get entC_length htk k 0 hk (by omega)
    rw [Nat.add_zero] at x0
    exact ⟨(hA'.cell _).trans x0, (hA'.cell _).trans (flat_take_get entC_length htk k 1 hk (by omega)), (hA'.cell _).trans (flat_take_get entC_length htk k 2 hk (by omega))⟩
set_option maxRecDepth 2000 in
set_option maxHeartbeats 2000000 in
theorem same_eq_c (B1 B2 : Nat) (er n : Int) (key : List UInt8) (v1 v2 : Value) (es : List Ent) (w : World) (h1 : EntO B1 w v1 es) (h2 : EntO B2 w v2 es) (hl : es.length ≤ 100000) :
    Calls Try.prog 15 #[.agg #[.int .i64 er, str key, .int .i64 n, v1], .agg #[.int .i64 er, str key, .int .i64 n, v2]] w fun e w' => e = .returned (.bool true) ∧ Keep w w' := by
  obtain ⟨a1, c1, rfl, hc1, hm1, r1⟩ := ent_read h1
  obtain ⟨a2, c2, rfl, hc2, hm2, r2⟩ := ent_read h2
  have A := Arr.new w 29 [.int .i64 er, str key, .int .i64 n, .slice a1 es.length c1]
  have K1 := (Keep.refl w).alloc (.cells #[.int .i64 er, str key, .int .i64 n, .slice a1 es.length c1] 29)
  have A2 := Arr.new (w.alloc (.cells #[.int .i64 er, str key, .int .i64 n, .slice a1 es.length c1] 29)) 29 [.int .i64 er, str key, .int .i64 n, .slice a2 es.length c2]
  have k2 := (Keep.refl (w.alloc (.cells #[.int .i64 er, str key, .int .i64 n, .slice a1 es.length c1] 29))).alloc (.cells #[.int .i64 er, str key, .int .i64 n, .slice a2 es.length c2] 29)
  have A1 := A.keep k2
  have K2 := K1.trans k2
  have e1 : (er != er) = false := by simp
  have e2 : (key == key) = true := by simp
  have e3 : (key != key) = false := by simp
  have e4 : (n != n) = false := by simp
  have e5 : ((es.length : Int) != (es.length : Int)) = false := by simp
  go_enter Try.func15, Try.ntmps15
  go_wp2_with fail
  generalize hW : (w.alloc (.cells #[.int .i64 er, str key, .int .i64 n, .slice a1 es.length c1] 29)).alloc (.cells #[.int .i64 er, str key, .int .i64 n, .slice a2 es.length c2] 29) = W at *
  have hs2 : (w.alloc (.cells #[.int .i64 er, str key, .int .i64 n, .slice a1 es.length c1] 29)).heap.size = w.heap.size + 1 := by simp
  rw [hs2] at A2
  obtain ⟨g2, hg2⟩ : ∃ g2, g2 = w.heap.size := ⟨_, rfl⟩
  have R1 := Hid.mk r1
  have R2 := Hid.mk r2
  have p1 := A1.cell 3
  have p2 := A2.cell 3
  simp only [List.getElem?_cons_zero, List.getElem?_cons_succ] at p1 p2
  clear hW hs2 A A2 k2 K1 A1 e1 e2 e3 e4 e5 r1 r2 hg2
  obtain ⟨L, hL⟩ : ∃ L, L = es.length := ⟨_, rfl⟩
  rw [← hL] at p1 p2 hc1 hc2 hl ⊢
  have HL := Hid.mk hL
  clear hL
  go_loopg [5] L (fun gk iv wr => ∃ k : Nat, k + gk = L ∧ iv = .int .i64 k ∧ Keep W wr)
  case atStart => exact ⟨0, by omega, rfl, Keep.refl _⟩
  case round => as_aux_lemma =>
    obtain ⟨k, hk, rfl, kw⟩ := hrel
    have HK := Hid.mk hk
    clear hk
    have q1 := kw.cell p1
    have q2 := kw.cell p2
    by_cases hlt : k < L
    · have j1 : (k : Int) < L := by omega
      have hke : k < es.length := by have := HL.out; omega
      obtain ⟨g, rfl, hgl, hcc⟩ := R1.out k hke
      obtain ⟨g', rfl, hgl', hcc'⟩ := R2.out k hke
      obtain ⟨x0, x1, x2⟩ := hcc wr ((K2.trans kw).block g hgl)
      obtain ⟨y0, y1, y2⟩ := hcc' wr ((K2.trans kw).block g' hgl')
      clear hcc hcc'
      generalize es[k] = X at *
      obtain ⟨xl, xr, xk⟩ := X
      simp only at x0 x1 x2 y0 y1 y2
      go_wp2_with fail
      go_quiet (fail)
      go_wp2_with fail
      go_roundg (gk - 1)
      case measure => have := HK.out; omega
      case rel => exact ⟨k + 1, by have := HK.out; omega, by go_num, kw.drewN _⟩
    · have j1 : ¬ (k : Int) < L := by omega
      go_wp2_with fail
      go_ret
      exact ⟨rfl, K2.trans kw⟩
end Go.Proofs.Qxb6500766a
