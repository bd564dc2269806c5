/- mergem: digits. -/
import Derived.Test.Qxb6500767aTc
import Derived.Test.Qxb6500767aKe
import Derived.Deep.RegionWith
namespace Go.Proofs.Qxb6500767a
open Go.RowKit Go.Qm
set_option linter.unusedVariables false
set_option linter.unusedSimpArgs false
attribute [local go_sem ↓] Go.wp_at_zero Go.wp_at_succ
def digN (n : Nat) : List UInt8 := if h : n < 10 then [b8 (48 + n)] else digN (n / 10) ++ [b8 (48 + (n % 10 : Nat))]
termination_by n
decreasing_by omega
theorem digN_lo {n : Nat} (h : n < 10) : digN n = [b8 (48 + n)] := by rw [digN, dif_pos h]
theorem digN_hi {n : Nat} (h : ¬ n < 10) : digN n = digN (n / 10) ++ [b8 (48 + (n % 10 : Nat))] := by rw [digN, dif_neg h]
theorem digN_len : ∀ (k n : Nat), n < 10 ^ (k + 1) → (digN n).length ≤ k + 1
  | 0, n, h => by rw [digN_lo (by simpa using h)]; simp
  | k + 1, n, h => by
    by_cases h1 : n < 10
    · rw [digN_lo h1]; simp
    · rw [digN_hi h1, List.length_append]
      have := digN_len k (n / 10) (by rw [Nat.pow_succ] at h; omega)
      simp; omega
theorem str_add {l m : List UInt8} (h : l.length + m.length ≤ 2 ^ 60) : Op.stringOp .add (ByteArray.mk l.toArray) (ByteArray.mk m.toArray) = pure (str (l ++ m)) := by
  unfold Op.stringOp
  simp only
  rw [if_neg (by
    have e1 : (ByteArray.mk l.toArray).size = l.length := rfl
    have e2 : (ByteArray.mk m.toArray).size = m.length := rfl
    rw [e1, e2]
    simp [IntKind.max, IntKind.signed, IntKind.bits]
    omega)]
  congr 1
set_option maxRecDepth 3000 in
set_option maxHeartbeats 2000000 in
theorem digits_c (n : Nat) (hn : n < 2 ^ 63) (w : World) : Calls Try.prog 72 #[.int .i64 n] w fun e w' => e = .returned (str (digN n)) ∧ Keep w w' := by
  induction n using Nat.strongRecOn generalizing w with
  | ind n ih =>
    by_cases h : n < 10
    · have HV := Hid.mk (digN_lo h)
      generalize digN n = D at *
      have h1 : (n : Int) < 10 := by omega
      have h0 : (0 : Int) ≤ n := by omega
      have e1 : IntKind.i64.wrap (48 + (n : Int)) = 48 + (n : Int) := by rw [IntKind.wrap_i64] <;> omega
      have e2 : IntKind.u8.wrap (48 + (n : Int)) = 48 + (n : Int) := by simp [IntKind.wrap, IntKind.signed, IntKind.bits]; omega
      have ec := b8_cb' (48 + (n : Int)) (by omega) (by omega)
      have cv := fun W (hW : Bs W (.slice (some ⟨w.heap.size, 0, none⟩) 1 1) [b8 (48 + (n : Int))]) => run_conv hW
      have bs : Bs (w.alloc (.cells #[.int .u8 (48 + (n : Int))] 5)) (.slice (some ⟨w.heap.size, 0, none⟩) 1 1) [b8 (48 + (n : Int))] := by
        rw [ec]
        exact (Own.lit (B := w.heap.size) (e := 5) (w := w) ([b8 (48 + (n : Int))].map cb) (Nat.le_refl _) (by simp [maxLen])).bs
      have cv1 := cv _ bs
      clear ih cv bs ec
      go_enter Try.func72, Try.ntmps72
      go_wp2_with fail
      go_ret
      rw [HV.out]
      exact ⟨rfl, (Keep.refl w).alloc _⟩
    · have HV := Hid.mk (digN_hi h)
      have IH := fun W => ih (n / 10) (by omega) (by omega) W
      have hDl := digN_len 18 (n / 10) (by omega)
      generalize digN n = D at *
      generalize digN (n / 10) = D1 at *
      have h1 : ¬ (n : Int) < 10 := by omega
      have h0 : ¬ (n : Int) < 0 := by omega
      have q1 : Int.tdiv (n : Int) 10 = ((n / 10 : Nat) : Int) := rfl
      have q2 : Int.tmod (n : Int) 10 = ((n % 10 : Nat) : Int) := rfl
      have hm : n % 10 < 10 := Nat.mod_lt _ (by omega)
      have hd : n / 10 < 2 ^ 63 := by omega
      generalize n % 10 = m at *
      generalize n / 10 = d at *
      have e1 : IntKind.i64.wrap (48 + (m : Int)) = 48 + (m : Int) := by rw [IntKind.wrap_i64] <;> omega
      have e2 : IntKind.u8.wrap (48 + (m : Int)) = 48 + (m : Int) := by simp [IntKind.wrap, IntKind.signed, IntKind.bits]; omega
      have e3 : IntKind.i64.wrap (m : Int) = (m : Int) := by rw [IntKind.wrap_i64] <;> omega
      have e4 : IntKind.i64.wrap (d : Int) = (d : Int) := by rw [IntKind.wrap_i64] <;> omega
      have ec := b8_cb' (48 + (m : Int)) (by omega) (by omega)
      have bsA : ∀ W : World, Bs (W.alloc (.cells #[.int .u8 (48 + (m : Int))] 5)) (.slice (some ⟨W.heap.size, 0, none⟩) 1 1) [b8 (48 + (m : Int))] := fun W => by
        rw [ec]
        exact (Own.lit (B := W.heap.size) (e := 5) (w := W) ([b8 (48 + (m : Int))].map cb) (Nat.le_refl _) (by simp [maxLen])).bs
      have cvA := fun W => run_conv (bsA W)
      have sad := str_add (l := D1) (m := [b8 (48 + (m : Int))]) (by simp; omega)
      have cvD := cvA w.drew
      have cvE := run_conv ((bsA w).keep (Keep.refl _).drew)
      have HBS := Hid.mk bsA
      rw [show w.drew.heap.size = w.heap.size from rfl] at cvD
      clear ih bsA ec
      go_enter Try.func72, Try.ntmps72
      go_upto_region 5 with fail
      go_region_with (go_at_call 72; refine (IH _).mono ?_; rintro x y ⟨rfl, qq⟩; first | (have cvB : (convert 64 9 (.slice (some ⟨w.heap.size, 0, none⟩) 1 1)).run Try.prog y = .ok (str [b8 (48 + (m : Int))]) y := run_conv ((HBS.out w.drew).keep qq)) | (have cvB : (convert 64 9 (.slice (some ⟨w.heap.size, 0, none⟩) 1 1)).run Try.prog y = .ok (str [b8 (48 + (m : Int))]) y := run_conv ((HBS.out w).keep ((Keep.refl _).drew.trans qq))) | (have cvB : (convert 64 9 (.slice (some ⟨w.heap.size, 0, none⟩) 1 1)).run Try.prog y = .ok (str [b8 (48 + (m : Int))]) y := run_conv ((HBS.out w).keep qq)) | skip)
      all_goals
        go_wp2_with fail
        go_ret
        rw [HV.out]
        refine ⟨rfl, ?_⟩
        first
          | exact ((Keep.refl w).drew.trans qq).alloc _
          | exact (((Keep.refl w).alloc _).drew).trans qq
          | exact (((Keep.refl w).drew).alloc _).trans qq
          | exact ((Keep.refl w).alloc _).trans qq
end Go.Proofs.Qxb6500767a
