/- branchfsm.New: the empty stack. -/
import Derived.Test.Qxb6500766aMx
import Derived.Test.Qxb6500766aRows
namespace Go.Proofs.Qxb6500766a
open Go.RowKit Go.Qm
set_option linter.unusedVariables false
set_option linter.unusedSimpArgs false
attribute [local go_sem ↓] Go.wp_at_zero Go.wp_at_succ
def stk0 : List Value := List.replicate 192 (.slice none 0 0)
theorem zc96 : Try.zeroCells96 = stk0.toArray := by kernel_rfl
set_option maxRecDepth 4000 in
set_option maxHeartbeats 1000000 in
theorem stackNew_c (w : World) : Calls Try.prog 24 #[] w fun e w' => e = .returned (.pointer (some ⟨w.heap.size, 0, none⟩)) ∧ Arr w' w.heap.size 96 stk0 ∧ Keep w w' := by
  go_enter Try.func24, Try.ntmps24
  go_wp2_with fail
  rw [zc96]
  go_ret
  exact ⟨rfl, Arr.new w 96 stk0, (Keep.refl w).alloc _⟩
/-- A shelf that is not used. -/
def shelf0 : List Value := [.bool false, .int .i64 0, .int .u64 0, .slice none 0 0, .int .i64 0, .int .i64 0]
def cache0 (gs : Nat) : List Value := .pointer (some ⟨gs, 0, none⟩) :: ((List.replicate 16 ()).flatMap (fun _ => shelf0) ++ [.int .u64 0, .int .i64 0, .int .i64 0, .int .i64 0, .int .i64 0, .int .i64 0, .int .i64 0])
theorem zc75 (p : Value) : Try.zeroCells75.setIfInBounds 0 p = (p :: ((List.replicate 16 ()).flatMap (fun _ => shelf0) ++ [.int .u64 0, .int .i64 0, .int .i64 0, .int .i64 0, .int .i64 0, .int .i64 0, .int .i64 0])).toArray := by kernel_rfl
set_option maxRecDepth 4000 in
set_option maxHeartbeats 1000000 in
theorem cacheNew_c (gs : Nat) (w : World) : Calls Try.prog 25 #[.pointer (some ⟨gs, 0, none⟩)] w fun e w' => e = .returned (.pointer (some ⟨w.heap.size, 0, none⟩)) ∧ Arr w' w.heap.size 75 (cache0 gs) ∧ Keep w w' := by
  go_enter Try.func25, Try.ntmps25
  go_wp2_with fail
  rw [zc75]
  go_ret
  exact ⟨rfl, Arr.new w 75 (cache0 gs), (Keep.refl w).alloc _⟩
/-- The world that a law begins with: the stack's block, the cache's block, the pair of pointers. -/
theorem newWorld_c (w : World) : Calls Try.prog 9 #[] w fun e w' => ∃ gs gc gw, e = .returned (.pointer (some ⟨gw, 0, none⟩)) ∧ w.heap.size ≤ gs ∧ gs < gc ∧ gc < gw ∧ Arr w' gs 96 stk0 ∧ Arr w' gc 75 (cache0 gs) ∧ Arr w' gw 38 [.pointer (some ⟨gs, 0, none⟩), .pointer (some ⟨gc, 0, none⟩)] ∧ Keep w w' := by
  go_enter Try.func9, Try.ntmps9
  go_wp2_with fail
  refine (stackNew_c _).mono ?_
  rintro e w1 ⟨rfl, a1, k1⟩
  go_wp2_with fail
  refine (cacheNew_c _ _).mono ?_
  rintro e w2 ⟨rfl, a2, k2⟩
  go_wp2_with fail
  go_ret
  have k3 := (Keep.refl w2).alloc (.cells #[.pointer (some ⟨w.heap.size, 0, none⟩), .pointer (some ⟨w1.heap.size, 0, none⟩)] 38)
  exact ⟨w.heap.size, w1.heap.size, w2.heap.size, rfl, Nat.le_refl _, a1.lt, a2.lt, (a1.keep k2).keep k3, a2.keep k3, Arr.new w2 38 _, (k1.trans k2).trans k3⟩
end Go.Proofs.Qxb6500766a
