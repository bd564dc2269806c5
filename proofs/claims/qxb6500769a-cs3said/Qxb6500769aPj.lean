/- Every cipher: decryption undoes encryption, and the other way. -/
import Derived.Test.Qxb6500769aPf
import Derived.Test.Qxb6500769aPh
import Derived.Test.Qxb6500769aPi
namespace Go.Proofs.Qxb6500769a
open Go.RowKit Go.Qm
set_option linter.unusedVariables false
set_option linter.unusedSimpArgs false
theorem cam16_u (key l : List UInt8) (h : l.length = 16) : cam16B key (cam16 key l) = l :=
  cam_undo _ _ _ _ _ _ 9 rfl (by omega) (by omega) rfl l h
theorem cam32_u (key l : List UInt8) (h : l.length = 16) : cam32B key (cam32 key l) = l :=
  cam_undo _ _ _ _ _ _ 12 rfl (by omega) (by omega) rfl l h
theorem cam16_v (key l : List UInt8) (h : l.length = 16) : cam16 key (cam16B key l) = l := by
  have := cam_undo (tN (kaOf (klOf key) (0, 0)) 111).1 (tN (kaOf (klOf key) (0, 0)) 111).2 (klOf key).1 (klOf key).2 (k16 (klOf key) (0, 0) (kaOf (klOf key) (0, 0)) (0, 0)).reverse (ke16 (klOf key) (0, 0) (kaOf (klOf key) (0, 0)) (0, 0)).reverse 9 rfl (by omega) (by omega) rfl l h
  rw [List.reverse_reverse, List.reverse_reverse] at this
  exact this
theorem cam32_v (key l : List UInt8) (h : l.length = 16) : cam32 key (cam32B key l) = l := by
  have := cam_undo (tN (kbOf (kaOf (klOf key) (krOf key)) (krOf key)) 111).1 (tN (kbOf (kaOf (klOf key) (krOf key)) (krOf key)) 111).2 (klOf key).1 (klOf key).2 (k32 (klOf key) (krOf key) (kaOf (klOf key) (krOf key)) (kbOf (kaOf (klOf key) (krOf key)) (krOf key))).reverse (ke32 (klOf key) (krOf key) (kaOf (klOf key) (krOf key)) (kbOf (kaOf (klOf key) (krOf key)) (krOf key))).reverse 12 rfl (by omega) (by omega) rfl l h
  rw [List.reverse_reverse, List.reverse_reverse] at this
  exact this
theorem decA_encA {al : Int} (h0 : ksz al ≠ 0) (key l : List UInt8) (hl : l.length = bsz16 al) : decA al key (encA al key l) = l := by
  rcases bsz_of h0 with ⟨rfl, hb, -⟩ | ⟨h5, hb⟩
  · rw [decA, if_pos rfl, encA, if_pos rfl]
    exact dec3_enc3 key l (hl.trans hb)
  · rw [decA, if_neg h5, encA, if_neg h5, decF, encF]
    rw [hb] at hl
    by_cases h3 : al = 3
    · rw [if_pos h3, if_pos h3]; exact cam16_u key l hl
    · rw [if_neg h3, if_neg h3]
      by_cases h4 : al = 4
      · rw [if_pos h4, if_pos h4]; exact cam32_u key l hl
      · rw [if_neg h4, if_neg h4]; exact aesd_aes key l hl
theorem encA_decA {al : Int} (h0 : ksz al ≠ 0) (key l : List UInt8) (hl : l.length = bsz16 al) : encA al key (decA al key l) = l := by
  rcases bsz_of h0 with ⟨rfl, hb, -⟩ | ⟨h5, hb⟩
  · rw [decA, if_pos rfl, encA, if_pos rfl]
    exact enc3_dec3 key l (hl.trans hb)
  · rw [decA, if_neg h5, encA, if_neg h5, decF, encF]
    rw [hb] at hl
    by_cases h3 : al = 3
    · rw [if_pos h3, if_pos h3]; exact cam16_v key l hl
    · rw [if_neg h3, if_neg h3]
      by_cases h4 : al = 4
      · rw [if_pos h4, if_pos h4]; exact cam32_v key l hl
      · rw [if_neg h4, if_neg h4]; exact aes_aesd key l hl
end Go.Proofs.Qxb6500769a
