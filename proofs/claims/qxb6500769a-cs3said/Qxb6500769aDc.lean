/- cipherm: DES's tables and lists of bits. -/
import Derived.Test.Qxb6500769aOct
import Derived.Great.Walk
namespace Go.Proofs.Qxb6500769a
open Go.RowKit Go.Qm
set_option linter.unusedVariables false
set_option linter.unusedSimpArgs false
attribute [local go_sem ↓] Go.wp_at_zero Go.wp_at_succ

def ci (n : Nat) : Value := .int .i64 n
theorem inf3 : (Try.prog.info? 3).map (fun i => (i.zero, i.size, i.bytes)) = some (some (.int .i64 0), 1, 8) := by kernel_rfl
def tIP : List Nat := [58, 50, 42, 34, 26, 18, 10, 2, 60, 52, 44, 36, 28, 20, 12, 4, 62, 54, 46, 38, 30, 22, 14, 6, 64, 56, 48, 40, 32, 24, 16, 8, 57, 49, 41, 33, 25, 17, 9, 1, 59, 51, 43, 35, 27, 19, 11, 3, 61, 53, 45, 37, 29, 21, 13, 5, 63, 55, 47, 39, 31, 23, 15, 7]
theorem tIP_length : tIP.length = 64 := rfl
set_option maxRecDepth 4000 in
set_option maxHeartbeats 2000000 in
theorem tableIP_c (w : World) : Calls Try.prog 74 #[] w fun e w' => ∃ v', e = .returned v' ∧ Own w.heap.size 3 w' v' (tIP.map ci) ∧ Keep w w' := by
  go_enter Try.func74, Try.ntmps74
  go_wp2_with (refine Great.wpList_buildSliceTo (by rfl) 97 3 64 _ (by rfl) w.heap.size rfl (some 1) (by rfl) Try.underlying97 (tIP.map ci).toArray (by kernel_rfl) ?_)
  go_ret
  exact ⟨_, rfl, Own.lit (B := w.heap.size) (w := w) (tIP.map ci) (Nat.le_refl _) (by simp [maxLen, tIP_length]), (Keep.refl _).alloc _⟩
def tIV : List Nat := [40, 8, 48, 16, 56, 24, 64, 32, 39, 7, 47, 15, 55, 23, 63, 31, 38, 6, 46, 14, 54, 22, 62, 30, 37, 5, 45, 13, 53, 21, 61, 29, 36, 4, 44, 12, 52, 20, 60, 28, 35, 3, 43, 11, 51, 19, 59, 27, 34, 2, 42, 10, 50, 18, 58, 26, 33, 1, 41, 9, 49, 17, 57, 25]
theorem tIV_length : tIV.length = 64 := rfl
set_option maxRecDepth 4000 in
set_option maxHeartbeats 2000000 in
theorem tableIPInverse_c (w : World) : Calls Try.prog 78 #[] w fun e w' => ∃ v', e = .returned v' ∧ Own w.heap.size 3 w' v' (tIV.map ci) ∧ Keep w w' := by
  go_enter Try.func78, Try.ntmps78
  go_wp2_with (refine Great.wpList_buildSliceTo (by rfl) 97 3 64 _ (by rfl) w.heap.size rfl (some 1) (by rfl) Try.underlying97 (tIV.map ci).toArray (by kernel_rfl) ?_)
  go_ret
  exact ⟨_, rfl, Own.lit (B := w.heap.size) (w := w) (tIV.map ci) (Nat.le_refl _) (by simp [maxLen, tIV_length]), (Keep.refl _).alloc _⟩
def tE : List Nat := [32, 1, 2, 3, 4, 5, 4, 5, 6, 7, 8, 9, 8, 9, 10, 11, 12, 13, 12, 13, 14, 15, 16, 17, 16, 17, 18, 19, 20, 21, 20, 21, 22, 23, 24, 25, 24, 25, 26, 27, 28, 29, 28, 29, 30, 31, 32, 1]
theorem tE_length : tE.length = 48 := rfl
set_option maxRecDepth 4000 in
set_option maxHeartbeats 2000000 in
theorem tableE_c (w : World) : Calls Try.prog 100 #[] w fun e w' => ∃ v', e = .returned v' ∧ Own w.heap.size 3 w' v' (tE.map ci) ∧ Keep w w' := by
  go_enter Try.func100, Try.ntmps100
  go_wp2_with (refine Great.wpList_buildSliceTo (by rfl) 97 3 48 _ (by rfl) w.heap.size rfl (some 1) (by rfl) Try.underlying97 (tE.map ci).toArray (by kernel_rfl) ?_)
  go_ret
  exact ⟨_, rfl, Own.lit (B := w.heap.size) (w := w) (tE.map ci) (Nat.le_refl _) (by simp [maxLen, tE_length]), (Keep.refl _).alloc _⟩
def tP : List Nat := [16, 7, 20, 21, 29, 12, 28, 17, 1, 15, 23, 26, 5, 18, 31, 10, 2, 8, 24, 14, 32, 27, 3, 9, 19, 13, 30, 6, 22, 11, 4, 25]
theorem tP_length : tP.length = 32 := rfl
set_option maxRecDepth 4000 in
set_option maxHeartbeats 2000000 in
theorem tableP_c (w : World) : Calls Try.prog 101 #[] w fun e w' => ∃ v', e = .returned v' ∧ Own w.heap.size 3 w' v' (tP.map ci) ∧ Keep w w' := by
  go_enter Try.func101, Try.ntmps101
  go_wp2_with (refine Great.wpList_buildSliceTo (by rfl) 97 3 32 _ (by rfl) w.heap.size rfl (some 1) (by rfl) Try.underlying97 (tP.map ci).toArray (by kernel_rfl) ?_)
  go_ret
  exact ⟨_, rfl, Own.lit (B := w.heap.size) (w := w) (tP.map ci) (Nat.le_refl _) (by simp [maxLen, tP_length]), (Keep.refl _).alloc _⟩
def tC1 : List Nat := [57, 49, 41, 33, 25, 17, 9, 1, 58, 50, 42, 34, 26, 18, 10, 2, 59, 51, 43, 35, 27, 19, 11, 3, 60, 52, 44, 36, 63, 55, 47, 39, 31, 23, 15, 7, 62, 54, 46, 38, 30, 22, 14, 6, 61, 53, 45, 37, 29, 21, 13, 5, 28, 20, 12, 4]
theorem tC1_length : tC1.length = 56 := rfl
set_option maxRecDepth 4000 in
set_option maxHeartbeats 2000000 in
theorem tablePC1_c (w : World) : Calls Try.prog 95 #[] w fun e w' => ∃ v', e = .returned v' ∧ Own w.heap.size 3 w' v' (tC1.map ci) ∧ Keep w w' := by
  go_enter Try.func95, Try.ntmps95
  go_wp2_with (refine Great.wpList_buildSliceTo (by rfl) 97 3 56 _ (by rfl) w.heap.size rfl (some 1) (by rfl) Try.underlying97 (tC1.map ci).toArray (by kernel_rfl) ?_)
  go_ret
  exact ⟨_, rfl, Own.lit (B := w.heap.size) (w := w) (tC1.map ci) (Nat.le_refl _) (by simp [maxLen, tC1_length]), (Keep.refl _).alloc _⟩
def tC2 : List Nat := [14, 17, 11, 24, 1, 5, 3, 28, 15, 6, 21, 10, 23, 19, 12, 4, 26, 8, 16, 7, 27, 20, 13, 2, 41, 52, 31, 37, 47, 55, 30, 40, 51, 45, 33, 48, 44, 49, 39, 56, 34, 53, 46, 42, 50, 36, 29, 32]
theorem tC2_length : tC2.length = 48 := rfl
set_option maxRecDepth 4000 in
set_option maxHeartbeats 2000000 in
theorem tablePC2_c (w : World) : Calls Try.prog 98 #[] w fun e w' => ∃ v', e = .returned v' ∧ Own w.heap.size 3 w' v' (tC2.map ci) ∧ Keep w w' := by
  go_enter Try.func98, Try.ntmps98
  go_wp2_with (refine Great.wpList_buildSliceTo (by rfl) 97 3 48 _ (by rfl) w.heap.size rfl (some 1) (by rfl) Try.underlying97 (tC2.map ci).toArray (by kernel_rfl) ?_)
  go_ret
  exact ⟨_, rfl, Own.lit (B := w.heap.size) (w := w) (tC2.map ci) (Nat.le_refl _) (by simp [maxLen, tC2_length]), (Keep.refl _).alloc _⟩
end Go.Proofs.Qxb6500769a
