/- AES: the columns undo each other, entry by entry. -/
import Derived.Test.Qxb6500769aPd
namespace Go.Proofs.Qxb6500769a
open Go.RowKit Go.Qm
set_option linter.unusedVariables false
set_option linter.unusedSimpArgs false
theorem nm00 (a : UInt8) : ent 14 11 13 9 2 1 1 3 a = a := ent_of (d := true) (by kernel_rfl) a
theorem nm01 (a : UInt8) : ent 14 11 13 9 3 2 1 1 a = 0 := ent_of (d := false) (by kernel_rfl) a
theorem nm02 (a : UInt8) : ent 14 11 13 9 1 3 2 1 a = 0 := ent_of (d := false) (by kernel_rfl) a
theorem nm03 (a : UInt8) : ent 14 11 13 9 1 1 3 2 a = 0 := ent_of (d := false) (by kernel_rfl) a
theorem nm10 (a : UInt8) : ent 9 14 11 13 2 1 1 3 a = 0 := ent_of (d := false) (by kernel_rfl) a
theorem nm11 (a : UInt8) : ent 9 14 11 13 3 2 1 1 a = a := ent_of (d := true) (by kernel_rfl) a
theorem nm12 (a : UInt8) : ent 9 14 11 13 1 3 2 1 a = 0 := ent_of (d := false) (by kernel_rfl) a
theorem nm13 (a : UInt8) : ent 9 14 11 13 1 1 3 2 a = 0 := ent_of (d := false) (by kernel_rfl) a
theorem nm20 (a : UInt8) : ent 13 9 14 11 2 1 1 3 a = 0 := ent_of (d := false) (by kernel_rfl) a
theorem nm21 (a : UInt8) : ent 13 9 14 11 3 2 1 1 a = 0 := ent_of (d := false) (by kernel_rfl) a
theorem nm22 (a : UInt8) : ent 13 9 14 11 1 3 2 1 a = a := ent_of (d := true) (by kernel_rfl) a
theorem nm23 (a : UInt8) : ent 13 9 14 11 1 1 3 2 a = 0 := ent_of (d := false) (by kernel_rfl) a
theorem nm30 (a : UInt8) : ent 11 13 9 14 2 1 1 3 a = 0 := ent_of (d := false) (by kernel_rfl) a
theorem nm31 (a : UInt8) : ent 11 13 9 14 3 2 1 1 a = 0 := ent_of (d := false) (by kernel_rfl) a
theorem nm32 (a : UInt8) : ent 11 13 9 14 1 3 2 1 a = 0 := ent_of (d := false) (by kernel_rfl) a
theorem nm33 (a : UInt8) : ent 11 13 9 14 1 1 3 2 a = a := ent_of (d := true) (by kernel_rfl) a
theorem mn00 (a : UInt8) : ent 2 3 1 1 14 9 13 11 a = a := ent_of (d := true) (by kernel_rfl) a
theorem mn01 (a : UInt8) : ent 2 3 1 1 11 14 9 13 a = 0 := ent_of (d := false) (by kernel_rfl) a
theorem mn02 (a : UInt8) : ent 2 3 1 1 13 11 14 9 a = 0 := ent_of (d := false) (by kernel_rfl) a
theorem mn03 (a : UInt8) : ent 2 3 1 1 9 13 11 14 a = 0 := ent_of (d := false) (by kernel_rfl) a
theorem mn10 (a : UInt8) : ent 1 2 3 1 14 9 13 11 a = 0 := ent_of (d := false) (by kernel_rfl) a
theorem mn11 (a : UInt8) : ent 1 2 3 1 11 14 9 13 a = a := ent_of (d := true) (by kernel_rfl) a
theorem mn12 (a : UInt8) : ent 1 2 3 1 13 11 14 9 a = 0 := ent_of (d := false) (by kernel_rfl) a
theorem mn13 (a : UInt8) : ent 1 2 3 1 9 13 11 14 a = 0 := ent_of (d := false) (by kernel_rfl) a
theorem mn20 (a : UInt8) : ent 1 1 2 3 14 9 13 11 a = 0 := ent_of (d := false) (by kernel_rfl) a
theorem mn21 (a : UInt8) : ent 1 1 2 3 11 14 9 13 a = 0 := ent_of (d := false) (by kernel_rfl) a
theorem mn22 (a : UInt8) : ent 1 1 2 3 13 11 14 9 a = a := ent_of (d := true) (by kernel_rfl) a
theorem mn23 (a : UInt8) : ent 1 1 2 3 9 13 11 14 a = 0 := ent_of (d := false) (by kernel_rfl) a
theorem mn30 (a : UInt8) : ent 3 1 1 2 14 9 13 11 a = 0 := ent_of (d := false) (by kernel_rfl) a
theorem mn31 (a : UInt8) : ent 3 1 1 2 11 14 9 13 a = 0 := ent_of (d := false) (by kernel_rfl) a
theorem mn32 (a : UInt8) : ent 3 1 1 2 13 11 14 9 a = 0 := ent_of (d := false) (by kernel_rfl) a
theorem mn33 (a : UInt8) : ent 3 1 1 2 9 13 11 14 a = a := ent_of (d := true) (by kernel_rfl) a
set_option maxHeartbeats 2000000 in
theorem mck_inv (s : List UInt8) (h : s.length = 16) : mck 14 9 13 11 (mck 2 1 1 3 s 4) 4 = s := by
  obtain ⟨x0, x1, x2, x3, x4, x5, x6, x7, x8, x9, x10, x11, x12, x13, x14, x15, rfl⟩ := sixteen s h
  rw [mck_eq, mck_eq]
  simp only [mx_mx, nm00, nm01, nm02, nm03, nm10, nm11, nm12, nm13, nm20, nm21, nm22, nm23, nm30, nm31, nm32, nm33, UInt8.xor_zero, UInt8.zero_xor]
set_option maxHeartbeats 2000000 in
theorem mck_vni (s : List UInt8) (h : s.length = 16) : mck 2 1 1 3 (mck 14 9 13 11 s 4) 4 = s := by
  obtain ⟨x0, x1, x2, x3, x4, x5, x6, x7, x8, x9, x10, x11, x12, x13, x14, x15, rfl⟩ := sixteen s h
  rw [mck_eq, mck_eq]
  simp only [mx_mx, mn00, mn01, mn02, mn03, mn10, mn11, mn12, mn13, mn20, mn21, mn22, mn23, mn30, mn31, mn32, mn33, UInt8.xor_zero, UInt8.zero_xor]
end Go.Proofs.Qxb6500769a
