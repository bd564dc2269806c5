/- AES: the S-box and its inverse; the rows. -/
import Derived.Test.Qxb6500769aDb
namespace Go.Proofs.Qxb6500769a
open Go.RowKit Go.Qm
set_option linter.unusedVariables false
set_option linter.unusedSimpArgs false
theorem sub_all : (List.range 256).all (fun n => isub8 (sub8 (UInt8.ofNat n)) == UInt8.ofNat n && sub8 (isub8 (UInt8.ofNat n)) == UInt8.ofNat n) = true := by kernel_rfl
theorem isub_sub (x : UInt8) : isub8 (sub8 x) = x := by
  have h := List.all_eq_true.1 sub_all x.toNat (List.mem_range.2 x.toNat_lt)
  rw [UInt8.ofNat_toNat] at h
  simp at h
  exact h.1
theorem sub_isub (x : UInt8) : sub8 (isub8 x) = x := by
  have h := List.all_eq_true.1 sub_all x.toNat (List.mem_range.2 x.toNat_lt)
  rw [UInt8.ofNat_toNat] at h
  simp at h
  exact h.2
end Go.Proofs.Qxb6500769a
