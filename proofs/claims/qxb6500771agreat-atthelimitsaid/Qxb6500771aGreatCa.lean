/- cipherm: the small functions of Camellia. -/
import Derived.Test.Qxb6500771aGreatSm
import Derived.Test.Qxb6500771aGreatTab
import Derived.OpenShut
namespace Go.Proofs.Qxb6500771aGreat
open Go.RowKit Go.Qm
set_option linter.unusedVariables false
set_option linter.unusedSimpArgs false
attribute [local go_sem ↓] Go.wp_at_zero Go.wp_at_succ

theorem z126 : (Tryz.prog.info? 170).map (·.zero) = some (some (.agg (List.replicate 256 (Value.int .u8 0)).toArray)) := by kernel_rfl
theorem s126 : (Tryz.prog.info? 170).map (·.size) = some 256 := by kernel_rfl
set_option maxRecDepth 4000 in
def boxT : List UInt8 := [112, 130, 44, 236, 179, 39, 192, 229, 228, 133, 87, 53, 234, 12, 174, 65, 35, 239, 107, 147, 69, 25, 165, 33, 237, 14, 79, 78, 29, 101, 146, 189, 134, 184, 175, 143, 124, 235, 31, 206, 62, 48, 220, 95, 94, 197, 11, 26, 166, 225, 57, 202, 213, 71, 93, 61, 217, 1, 90, 214, 81, 86, 108, 77, 139, 13, 154, 102, 251, 204, 176, 45, 116, 18, 43, 32, 240, 177, 132, 153, 223, 76, 203, 194, 52, 126, 118, 5, 109, 183, 169, 49, 209, 23, 4, 215, 20, 88, 58, 97, 222, 27, 17, 28, 50, 15, 156, 22, 83, 24, 242, 34, 254, 68, 207, 178, 195, 181, 122, 145, 36, 8, 232, 168, 96, 252, 105, 80, 170, 208, 160, 125, 161, 137, 98, 151, 84, 91, 30, 149, 224, 255, 100, 210, 16, 196, 0, 72, 163, 247, 117, 219, 138, 3, 230, 218, 9, 63, 221, 148, 135, 92, 131, 2, 205, 74, 144, 51, 115, 103, 246, 243, 157, 127, 191, 226, 82, 155, 216, 38, 200, 55, 198, 59, 129, 150, 111, 75, 19, 190, 99, 46, 233, 121, 167, 140, 159, 110, 188, 142, 41, 245, 249, 182, 47, 253, 180, 89, 120, 152, 6, 106, 231, 70, 113, 186, 212, 37, 171, 66, 136, 162, 141, 250, 114, 7, 185, 85, 248, 238, 172, 10, 54, 73, 42, 104, 60, 56, 241, 164, 64, 40, 211, 123, 187, 201, 67, 193, 21, 227, 173, 244, 119, 199, 128, 158]
set_option maxRecDepth 4000 in
theorem boxT_length : (boxT.map cb).length = 256 := rfl
theorem boxT_one : ((boxT.map cb).toArray).all (·.oneCell') = true := by simp [cb, Value.oneCell']
def sb1 (x : UInt8) : UInt8 := boxT.getD x.toNat 0
set_option maxRecDepth 4000 in
theorem boxT_get (x : UInt8) : (boxT.map cb)[x.toNat]? = some (.int .u8 (sb1 x).toNat) := by
  have h : x.toNat < boxT.length := by have := x.toNat_lt; rw [show boxT.length = 256 from rfl]; omega
  rw [List.getElem?_map, List.getElem?_eq_getElem h]
  unfold sb1
  rw [List.getD_eq_getElem?_getD, List.getElem?_eq_getElem h]
  rfl
set_option maxRecDepth 4000 in
set_option maxHeartbeats 4000000 in
theorem sbox1_c (x : UInt8) (w : World) : Calls Tryz.prog 134 #[.int .u8 x.toNat] w fun e w' => e = .returned (.int .u8 (sb1 x).toNat) ∧ Keep w w' := by
  have hs := Hid.mk boxT_length
  have h1 : (x.toNat : Int) < 256 := by have := x.toNat_lt; omega
  obtain ⟨Z, hZ⟩ : ∃ Z, Z = List.replicate 256 (Value.int .u8 0) := ⟨_, rfl⟩
  have zZ := z126
  rw [← hZ] at zZ
  have lZ : Hid (Z.length = 256) := Hid.mk (by rw [hZ, List.length_replicate])
  have HZ := Hid.mk zZ
  clear hZ zZ
  have A := (Arr.new w 170 Z).row (boxT.map cb)
  have hc := A.cell x.toNat
  rw [boxT_get] at hc
  clear A
  go_enter Tryz.func134, Tryz.ntmps134
  go_wp2_with (first
    | (refine wpList_alloc_z (by rfl) 170 (by rfl) Z HZ.out ?_)
    | (refine wpList_build_as (by rfl) 170 _ (by rfl) (boxT.map cb).toArray (by kernel_rfl) ?_)
    | (refine wpList_store_row (by rfl) 170 (.tmp 3) (.tmp 4) (by rfl) w.heap.size (boxT.map cb).toArray (by rfl) (by rfl) 170 _ (Arr.new w 170 _) (by rw [List.size_toArray, hs.out]; exact s126) (by rw [List.size_toArray, List.size_toArray, hs.out, lZ.out]) boxT_one ?_))
  go_ret
  exact ⟨rfl, ((Keep.refl w).alloc _).setRow (Nat.le_refl _) _⟩
def U8 (x : Int) : UInt8 := UInt8.ofNat x.toNat
theorem U8_eq (x : Int) (h : 0 ≤ x ∧ x < 256) : ((U8 x).toNat : Int) = x := by
  unfold U8
  rw [UInt8.toNat_ofNat', Nat.mod_eq_of_lt (by omega)]
  omega
theorem bits8_lt (op : BinOp) (x y : Int) : 0 ≤ bits op .u8 x y ∧ bits op .u8 x y < 256 := by
  have h := wf_bits op .u8 x y
  simp [Lit.wf, IntKind.min, IntKind.max, IntKind.signed, IntKind.bits] at h
  omega
theorem bits64_lt (op : BinOp) (x y : Int) : 0 ≤ bits op .u64 x y ∧ bits op .u64 x y < 18446744073709551616 := by
  have h := wf_bits op .u64 x y
  simp [Lit.wf, IntKind.min, IntKind.max, IntKind.signed, IntKind.bits] at h
  omega
theorem bits64_n (op : BinOp) (x y : Int) : bits op .u64 x y = (n64 (bits op .u64 x y) : Int) := by
  have := bits64_lt op x y
  unfold n64
  omega
def rt1 (x : UInt8) : UInt8 := U8 (bits .or .u8 ((x.toNat : Int) * 2 % 256) ((x.toNat : Int) / 128))
def rt7 (x : UInt8) : UInt8 := U8 (bits .or .u8 ((x.toNat : Int) * 128 % 256) ((x.toNat : Int) / 2))
theorem rotl8_1 (x : UInt8) (w : World) : Calls Tryz.prog 138 #[.int .u8 x.toNat, .int .u64 1] w fun e w' => e = .returned (.int .u8 (rt1 x).toNat) ∧ w' = w := by
  have e := Hid.mk (U8_eq _ (bits8_lt .or ((x.toNat : Int) * 2 % 256) ((x.toNat : Int) / 128)))
  go_enter Tryz.func138, Tryz.ntmps138
  go_wp2
  go_ret
  unfold rt1
  rw [e.out]
  exact ⟨rfl, rfl⟩
theorem rotl8_7 (x : UInt8) (w : World) : Calls Tryz.prog 138 #[.int .u8 x.toNat, .int .u64 7] w fun e w' => e = .returned (.int .u8 (rt7 x).toNat) ∧ w' = w := by
  have e := Hid.mk (U8_eq _ (bits8_lt .or ((x.toNat : Int) * 128 % 256) ((x.toNat : Int) / 2)))
  go_enter Tryz.func138, Tryz.ntmps138
  go_wp2
  go_ret
  unfold rt7
  rw [e.out]
  exact ⟨rfl, rfl⟩
theorem sbox2_c (x : UInt8) (w : World) : Calls Tryz.prog 135 #[.int .u8 x.toNat] w fun e w' => e = .returned (.int .u8 (rt1 (sb1 x)).toNat) ∧ Keep w w' := by
  go_enter Tryz.func135, Tryz.ntmps135
  go_wp2_with fail
  refine (sbox1_c x _).mono ?_
  rintro e w1 ⟨rfl, k1⟩
  go_wp2_with fail
  refine (rotl8_1 _ _).mono ?_
  rintro e w2 ⟨rfl, rfl⟩
  go_wp2
  go_ret
  exact ⟨rfl, k1⟩
theorem sbox3_c (x : UInt8) (w : World) : Calls Tryz.prog 136 #[.int .u8 x.toNat] w fun e w' => e = .returned (.int .u8 (rt7 (sb1 x)).toNat) ∧ Keep w w' := by
  go_enter Tryz.func136, Tryz.ntmps136
  go_wp2_with fail
  refine (sbox1_c x _).mono ?_
  rintro e w1 ⟨rfl, k1⟩
  go_wp2_with fail
  refine (rotl8_7 _ _).mono ?_
  rintro e w2 ⟨rfl, rfl⟩
  go_wp2
  go_ret
  exact ⟨rfl, k1⟩
theorem sbox4_c (x : UInt8) (w : World) : Calls Tryz.prog 137 #[.int .u8 x.toNat] w fun e w' => e = .returned (.int .u8 (sb1 (rt1 x)).toNat) ∧ Keep w w' := by
  go_enter Tryz.func137, Tryz.ntmps137
  go_wp2_with fail
  refine (rotl8_1 _ _).mono ?_
  rintro e w2 ⟨rfl, rfl⟩
  go_wp2_with fail
  refine (sbox1_c _ _).mono ?_
  rintro e w1 ⟨rfl, k1⟩
  go_wp2
  go_ret
  exact ⟨rfl, k1⟩
/-- rotl32, the two FL functions, on Ints as the walk leaves them. -/
def rl32 (x : Int) : Int := bits .or .u32 (x * 2 % 4294967296) (x / 2147483648)
theorem rotl32_1 (x : Int) (w : World) : Calls Tryz.prog 133 #[.int .u32 x, .int .u64 1] w fun e w' => e = .returned (.int .u32 (rl32 x)) ∧ w' = w := by
  go_enter Tryz.func133, Tryz.ntmps133
  go_wp2
  go_ret
  exact ⟨rfl, rfl⟩
def cOut (a b : Int) : Int := bits .or .u64 (IntKind.u64.wrap (IntKind.u64.wrap a * 4294967296)) (IntKind.u64.wrap b)
def cFL2 (x k : Int) : Int := bits .xor .u32 (x % 4294967296) (rl32 (bits .and .u32 (x / 4294967296 % 4294967296) (k / 4294967296 % 4294967296)))
def cFL (x k : Int) : Int := cOut (bits .xor .u32 (x / 4294967296 % 4294967296) (bits .or .u32 (cFL2 x k) (k % 4294967296))) (cFL2 x k)
def cFI1 (y k : Int) : Int := bits .xor .u32 (y / 4294967296 % 4294967296) (bits .or .u32 (y % 4294967296) (k % 4294967296))
def cFI (y k : Int) : Int := cOut (cFI1 y k) (bits .xor .u32 (y % 4294967296) (rl32 (bits .and .u32 (cFI1 y k) (k / 4294967296 % 4294967296))))
theorem camFL_c (x k : Int) (w : World) : Calls Tryz.prog 117 #[.int .u64 x, .int .u64 k] w fun e w' => e = .returned (.int .u64 (cFL x k)) ∧ w' = w := by
  go_enter Tryz.func117, Tryz.ntmps117
  go_wp2_with fail
  refine (rotl32_1 _ _).mono ?_
  rintro e w2 ⟨rfl, rfl⟩
  go_wp2
  go_ret
  exact ⟨rfl, rfl⟩
theorem camFLINV_c (x k : Int) (w : World) : Calls Tryz.prog 118 #[.int .u64 x, .int .u64 k] w fun e w' => e = .returned (.int .u64 (cFI x k)) ∧ w' = w := by
  go_enter Tryz.func118, Tryz.ntmps118
  go_wp2_with fail
  refine (rotl32_1 _ _).mono ?_
  rintro e w2 ⟨rfl, rfl⟩
  go_wp2
  go_ret
  exact ⟨rfl, rfl⟩
end Go.Proofs.Qxb6500771aGreat
