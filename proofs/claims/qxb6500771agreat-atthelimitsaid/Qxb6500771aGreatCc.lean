/- cipherm: Camellia's turn. -/
import Derived.Test.Qxb6500771aGreatCa
namespace Go.Proofs.Qxb6500771aGreat
open Go.RowKit Go.Qm
set_option linter.unusedVariables false
set_option linter.unusedSimpArgs false
attribute [local go_sem ↓] Go.wp_at_zero Go.wp_at_succ

theorem s104 : (Tryz.prog.info? 168).map (·.size) = some 2 := by kernel_rfl
def tS (s : Int × Int) : Int × Int :=
  (bits .or .u64 (s.1 * 2 % 18446744073709551616) (s.2 / 9223372036854775808), bits .or .u64 (s.2 * 2 % 18446744073709551616) (s.1 / 9223372036854775808))
def tN (s : Int × Int) : Nat → Int × Int
  | 0 => s
  | k + 1 => tS (tN s k)
def wv (s : Int × Int) : List Value := [.int .u64 s.1, .int .u64 s.2]
set_option maxHeartbeats 2000000 in
theorem turn_c (hi lo : Int) (n : Nat) (w : World) (hn : n ≤ 1000) : Calls Tryz.prog 132 #[.agg #[.int .u64 hi, .int .u64 lo], .int .u64 n] w fun e w' => e = .returned (.agg #[.int .u64 (tN (hi, lo) n).1, .int .u64 (tN (hi, lo) n).2]) ∧ Keep w w' := by
  have A0 : Arr ((w.alloc (.cells #[.int .u64 hi, .int .u64 lo] 168)).alloc (.cells #[.int .u64 0, .int .u64 0] 168)) w.heap.size 168 [.int .u64 hi, .int .u64 lo] := (Arr.new w 168 [.int .u64 hi, .int .u64 lo]).keep ((Keep.refl _).alloc _)
  have B0 : Arr ((w.alloc (.cells #[.int .u64 hi, .int .u64 lo] 168)).alloc (.cells #[.int .u64 0, .int .u64 0] 168)) (w.heap.size + 1) 168 [.int .u64 0, .int .u64 0] := by
    have := Arr.new (w.alloc (.cells #[.int .u64 hi, .int .u64 lo] 168)) 168 [.int .u64 0, .int .u64 0]
    simpa using this
  have K0 := ((Keep.refl w).alloc (.cells #[.int .u64 hi, .int .u64 lo] 168)).alloc (.cells #[.int .u64 0, .int .u64 0] 168)
  go_enter Tryz.func132, Tryz.ntmps132
  go_wp2_with fail
  go_loopw [5] (fun iv wr => ∃ k : Nat, k ≤ n ∧ iv = .int .u64 k ∧ Arr wr w.heap.size 168 [.int .u64 (tN (hi, lo) k).1, .int .u64 (tN (hi, lo) k).2] ∧ Arr wr (w.heap.size + 1) 168 [.int .u64 0, .int .u64 0] ∧ Keep w wr) (fun i _ => n - (intOf i).toNat)
  case atStart => exact ⟨0, by omega, rfl, A0, B0, K0⟩
  case round =>
    clear A0 B0 K0
    obtain ⟨k, hk, rfl, A, B, kw⟩ := hrel
    by_cases hlt : k < n
    · have hlt' : (k : Int) < n := by omega
      have ES : Hid (tN (hi, lo) (k + 1) = tS (tN (hi, lo) k)) := Hid.mk rfl
      generalize tN (hi, lo) k = s at *
      obtain ⟨a, b⟩ := s
      have c0 := A.cell 0
      have c1 := A.cell 1
      simp only [List.getElem?_cons_zero, List.getElem?_cons_succ] at c0 c1
      go_wp2_with (refine wpList_store_row (by rfl) 168 (.tmp 2) (.tmp 25) (by rfl) w.heap.size #[.int .u64 (tS (a, b)).1, .int .u64 (tS (a, b)).2] (by rfl) (by rfl) 168 _ A s104 (by rfl) (by simp [Value.oneCell']) ?_)
      go_roundw
      case rel =>
        refine ⟨k + 1, by omega, by go_num, ?_, ?_, kw.setRow (Nat.le_refl _) _⟩
        · rw [ES.out]
          exact A.row [.int .u64 (tS (a, b)).1, .int .u64 (tS (a, b)).2]
        · unfold Arr
          rw [setRow_other _ _ _ _ (by omega)]
          exact B
      case measure => simp [intOf]; omega
    · have hlt' : ¬ (k : Int) < n := by omega
      have : k = n := by omega
      subst this
      obtain ⟨⟨a, b⟩, hs⟩ : ∃ s, s = tN (hi, lo) k := ⟨_, rfl⟩
      rw [← hs] at A
      have HS := Hid.mk hs
      clear hs
      have c0 := A.cell 0
      have c1 := A.cell 1
      simp only [List.getElem?_cons_zero, List.getElem?_cons_succ] at c0 c1
      go_wp2_with (refine wpList_store_row (by rfl) 168 (.tmp 4) (.tmp 26) (by rfl) (w.heap.size + 1) #[.int .u64 a, .int .u64 b] (by rfl) (by rfl) 168 _ B s104 (by rfl) (by simp [Value.oneCell']) ?_)
      have R := B.row [.int .u64 a, .int .u64 b]
      have r0 := R.cell 0
      have r1 := R.cell 1
      simp only [List.getElem?_cons_zero, List.getElem?_cons_succ] at r0 r1
      refine bodyPost_ret (v := .agg #[.int .u64 a, .int .u64 b]) (by simp [results, Tryz.results132, go_sem, r0, r1]) rfl ⟨by rw [← HS.out], kw.setRow (by omega) _⟩
end Go.Proofs.Qxb6500771aGreat
