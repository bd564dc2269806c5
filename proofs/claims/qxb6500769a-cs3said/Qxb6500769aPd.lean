/- AES: the columns undo each other. -/
import Derived.Test.Qxb6500769aPc
namespace Go.Proofs.Qxb6500769a
open Go.RowKit Go.Qm
set_option linter.unusedVariables false
set_option linter.unusedSimpArgs false
theorem mck_eq (m0 m1 m2 m3 x0 x1 x2 x3 x4 x5 x6 x7 x8 x9 x10 x11 x12 x13 x14 x15 : UInt8) : mck m0 m1 m2 m3 [x0, x1, x2, x3, x4, x5, x6, x7, x8, x9, x10, x11, x12, x13, x14, x15] 4 = [mx m0 m3 m2 m1 x0 x1 x2 x3, mx m1 m0 m3 m2 x0 x1 x2 x3, mx m2 m1 m0 m3 x0 x1 x2 x3, mx m3 m2 m1 m0 x0 x1 x2 x3, mx m0 m3 m2 m1 x4 x5 x6 x7, mx m1 m0 m3 m2 x4 x5 x6 x7, mx m2 m1 m0 m3 x4 x5 x6 x7, mx m3 m2 m1 m0 x4 x5 x6 x7, mx m0 m3 m2 m1 x8 x9 x10 x11, mx m1 m0 m3 m2 x8 x9 x10 x11, mx m2 m1 m0 m3 x8 x9 x10 x11, mx m3 m2 m1 m0 x8 x9 x10 x11, mx m0 m3 m2 m1 x12 x13 x14 x15, mx m1 m0 m3 m2 x12 x13 x14 x15, mx m2 m1 m0 m3 x12 x13 x14 x15, mx m3 m2 m1 m0 x12 x13 x14 x15] := rfl
/-- One entry of the product of two matrices, at an octet. -/
def ent (n0 n1 n2 n3 m0 m1 m2 m3 a : UInt8) : UInt8 := tmul n0 (tmul m0 a) ^^^ tmul n1 (tmul m1 a) ^^^ tmul n2 (tmul m2 a) ^^^ tmul n3 (tmul m3 a)
def entOK (n0 n1 n2 n3 m0 m1 m2 m3 : UInt8) (d : Bool) : Bool := (List.range 256).all fun n => ent n0 n1 n2 n3 m0 m1 m2 m3 (UInt8.ofNat n) == (if d then UInt8.ofNat n else 0)
theorem ent_of {n0 n1 n2 n3 m0 m1 m2 m3 : UInt8} {d : Bool} (h : entOK n0 n1 n2 n3 m0 m1 m2 m3 d = true) (a : UInt8) : ent n0 n1 n2 n3 m0 m1 m2 m3 a = if d then a else 0 := by
  have h := List.all_eq_true.1 h a.toNat (List.mem_range.2 a.toNat_lt)
  rw [UInt8.ofNat_toNat] at h
  simpa using h
theorem mx_mx (n0 n1 n2 n3 p0 p1 p2 p3 q0 q1 q2 q3 r0 r1 r2 r3 s0 s1 s2 s3 a0 a1 a2 a3 : UInt8) :
    mx n0 n1 n2 n3 (mx p0 p1 p2 p3 a0 a1 a2 a3) (mx q0 q1 q2 q3 a0 a1 a2 a3) (mx r0 r1 r2 r3 a0 a1 a2 a3) (mx s0 s1 s2 s3 a0 a1 a2 a3) =
      ent n0 n1 n2 n3 p0 q0 r0 s0 a0 ^^^ ent n0 n1 n2 n3 p1 q1 r1 s1 a1 ^^^ ent n0 n1 n2 n3 p2 q2 r2 s2 a2 ^^^ ent n0 n1 n2 n3 p3 q3 r3 s3 a3 := by
  unfold mx ent
  simp only [tmul_xor]
  ac_rfl
end Go.Proofs.Qxb6500769a
