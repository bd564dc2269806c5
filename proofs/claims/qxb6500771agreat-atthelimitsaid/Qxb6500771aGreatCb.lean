/- cipherm: Camellia's F. -/
import Derived.Test.Qxb6500771aGreatCa
import Derived.Deep.CutRange
namespace Go.Proofs.Qxb6500771aGreat
open Go.RowKit Go.Qm
set_option linter.unusedVariables false
set_option linter.unusedSimpArgs false
attribute [local go_sem ↓] Go.wp_at_zero Go.wp_at_succ
attribute [-simp] UInt8.toNat_xor

def cMix (t1 t2 t3 t4 t5 t6 t7 t8 : UInt8) : List UInt8 :=
  [t1 ^^^ t3 ^^^ t4 ^^^ t6 ^^^ t7 ^^^ t8, t1 ^^^ t2 ^^^ t4 ^^^ t5 ^^^ t7 ^^^ t8, t1 ^^^ t2 ^^^ t3 ^^^ t5 ^^^ t6 ^^^ t8, t2 ^^^ t3 ^^^ t4 ^^^ t5 ^^^ t6 ^^^ t7, t1 ^^^ t2 ^^^ t6 ^^^ t7 ^^^ t8, t2 ^^^ t3 ^^^ t5 ^^^ t7 ^^^ t8, t3 ^^^ t4 ^^^ t5 ^^^ t6 ^^^ t8, t1 ^^^ t4 ^^^ t5 ^^^ t6 ^^^ t7]
def cX (i k : Int) (j : Nat) : UInt8 := (dig (n64 (bits .xor .u64 i k)) 8).getD j 0
def cF (i k : Int) : Int := (num (cMix (sb1 (cX i k 0)) (rt1 (sb1 (cX i k 1))) (rt7 (sb1 (cX i k 2))) (sb1 (rt1 (cX i k 3))) (rt1 (sb1 (cX i k 4))) (rt7 (sb1 (cX i k 5))) (sb1 (rt1 (cX i k 6))) (sb1 (cX i k 7))) : Nat)
set_option maxRecDepth 3000 in
set_option maxHeartbeats 4000000 in
theorem camF_c (i k : Int) (w : World) : Calls Tryz.prog 119 #[.int .u64 i, .int .u64 k] w fun e w' => e = .returned (.int .u64 (cF i k)) ∧ Keep w w' := by
  have D := fun W => digits64_c (bits .xor .u64 i k) 8 W (by omega)
  rw [← bits64_n] at D
  have hl := dig_length (n64 (bits .xor .u64 i k)) 8
  unfold cF cX
  generalize dig (n64 (bits .xor .u64 i k)) 8 = X at *
  go_enter Tryz.func119, Tryz.ntmps119
  go_wp2_with fail
  refine (D _).mono ?_
  rintro e w1 ⟨v1, rfl, o1, k1⟩
  clear D
  obtain ⟨x0, x1, x2, x3, x4, x5, x6, x7, hX⟩ : ∃ x0 x1 x2 x3 x4 x5 x6 x7, X = [x0, x1, x2, x3, x4, x5, x6, x7] := by
    match X, hl with
    | [x0, x1, x2, x3, x4, x5, x6, x7], _ => exact ⟨x0, x1, x2, x3, x4, x5, x6, x7, rfl⟩
  clear hl
  rcases o1.win with ⟨-, h0⟩ | ⟨g, cap, sp, rfl, hB, hwin, hcap, hm⟩
  · rw [hX] at h0; simp at h0
  rw [hX] at hwin hcap ⊢
  have HX := Hid.mk hX
  clear hX o1
  have c0 : w1.cell? ⟨g, 0, none⟩ = some (.int .u8 x0.toNat) := hwin.cell (k := 0) (o := 0) (by simp) (by simp)
  have c1 : w1.cell? ⟨g, 1, none⟩ = some (.int .u8 x1.toNat) := hwin.cell (k := 1) (o := 1) (by simp) (by simp)
  have c2 : w1.cell? ⟨g, 2, none⟩ = some (.int .u8 x2.toNat) := hwin.cell (k := 2) (o := 2) (by simp) (by simp)
  have c3 : w1.cell? ⟨g, 3, none⟩ = some (.int .u8 x3.toNat) := hwin.cell (k := 3) (o := 3) (by simp) (by simp)
  have c4 : w1.cell? ⟨g, 4, none⟩ = some (.int .u8 x4.toNat) := hwin.cell (k := 4) (o := 4) (by simp) (by simp)
  have c5 : w1.cell? ⟨g, 5, none⟩ = some (.int .u8 x5.toNat) := hwin.cell (k := 5) (o := 5) (by simp) (by simp)
  have c6 : w1.cell? ⟨g, 6, none⟩ = some (.int .u8 x6.toNat) := hwin.cell (k := 6) (o := 6) (by simp) (by simp)
  have c7 : w1.cell? ⟨g, 7, none⟩ = some (.int .u8 x7.toNat) := hwin.cell (k := 7) (o := 7) (by simp) (by simp)
  unfold maxLen at hm
  have hcap8 : 8 ≤ cap := by simp at hcap; omega
  simp only [List.length_cons, List.length_nil, Nat.zero_add, Nat.reduceAdd]
  clear hwin hcap
  have ALL : ∀ W, Keep w1 W → W.cell? ⟨g, 0, none⟩ = some (.int .u8 x0.toNat) ∧ W.cell? ⟨g, 1, none⟩ = some (.int .u8 x1.toNat) ∧ W.cell? ⟨g, 2, none⟩ = some (.int .u8 x2.toNat) ∧ W.cell? ⟨g, 3, none⟩ = some (.int .u8 x3.toNat) ∧ W.cell? ⟨g, 4, none⟩ = some (.int .u8 x4.toNat) ∧ W.cell? ⟨g, 5, none⟩ = some (.int .u8 x5.toNat) ∧ W.cell? ⟨g, 6, none⟩ = some (.int .u8 x6.toNat) ∧ W.cell? ⟨g, 7, none⟩ = some (.int .u8 x7.toNat) :=
    fun W hk => ⟨hk.cell c0, hk.cell c1, hk.cell c2, hk.cell c3, hk.cell c4, hk.cell c5, hk.cell c6, hk.cell c7⟩
  have C0 := fun W => sbox1_c x0 W
  have C1 := fun W => sbox2_c x1 W
  have C2 := fun W => sbox3_c x2 W
  have C3 := fun W => sbox4_c x3 W
  have C4 := fun W => sbox2_c x4 W
  have C5 := fun W => sbox3_c x5 W
  have C6 := fun W => sbox4_c x6 W
  have C7 := fun W => sbox1_c x7 W
  obtain ⟨t1, ht1⟩ : ∃ t, t = sb1 x0 := ⟨_, rfl⟩
  rw [← ht1] at C0
  obtain ⟨t2, ht2⟩ : ∃ t, t = rt1 (sb1 x1) := ⟨_, rfl⟩
  rw [← ht2] at C1
  obtain ⟨t3, ht3⟩ : ∃ t, t = rt7 (sb1 x2) := ⟨_, rfl⟩
  rw [← ht3] at C2
  obtain ⟨t4, ht4⟩ : ∃ t, t = sb1 (rt1 x3) := ⟨_, rfl⟩
  rw [← ht4] at C3
  obtain ⟨t5, ht5⟩ : ∃ t, t = rt1 (sb1 x4) := ⟨_, rfl⟩
  rw [← ht5] at C4
  obtain ⟨t6, ht6⟩ : ∃ t, t = rt7 (sb1 x5) := ⟨_, rfl⟩
  rw [← ht6] at C5
  obtain ⟨t7, ht7⟩ : ∃ t, t = sb1 (rt1 x6) := ⟨_, rfl⟩
  rw [← ht7] at C6
  obtain ⟨t8, ht8⟩ : ∃ t, t = sb1 x7 := ⟨_, rfl⟩
  rw [← ht8] at C7
  have HTS : Hid (num (cMix t1 t2 t3 t4 t5 t6 t7 t8) = num (cMix (sb1 ([x0, x1, x2, x3, x4, x5, x6, x7].getD 0 0)) (rt1 (sb1 ([x0, x1, x2, x3, x4, x5, x6, x7].getD 1 0))) (rt7 (sb1 ([x0, x1, x2, x3, x4, x5, x6, x7].getD 2 0))) (sb1 (rt1 ([x0, x1, x2, x3, x4, x5, x6, x7].getD 3 0))) (rt1 (sb1 ([x0, x1, x2, x3, x4, x5, x6, x7].getD 4 0))) (rt7 (sb1 ([x0, x1, x2, x3, x4, x5, x6, x7].getD 5 0))) (sb1 (rt1 ([x0, x1, x2, x3, x4, x5, x6, x7].getD 6 0))) (sb1 ([x0, x1, x2, x3, x4, x5, x6, x7].getD 7 0)))) := Hid.mk (by rw [ht1, ht2, ht3, ht4, ht5, ht6, ht7, ht8]; rfl)
  clear ht1 ht2 ht3 ht4 ht5 ht6 ht7 ht8
  have XX : ∀ x y : UInt8, bits .xor .u8 (x.toNat : Int) (y.toNat : Int) = ((x ^^^ y).toNat : Int) := bits_xor8
  have Q0 : Keep w1 w1.drew := (Keep.refl w1).drew
  clear c0 c1 c2 c3 c4 c5 c6 c7
  go_wp2_with fail
  go_region_held3 (fun W => W.cell? ⟨g, 0, none⟩ = some (.int .u8 x0.toNat) ∧ W.cell? ⟨g, 1, none⟩ = some (.int .u8 x1.toNat) ∧ W.cell? ⟨g, 2, none⟩ = some (.int .u8 x2.toNat) ∧ W.cell? ⟨g, 3, none⟩ = some (.int .u8 x3.toNat) ∧ W.cell? ⟨g, 4, none⟩ = some (.int .u8 x4.toNat) ∧ W.cell? ⟨g, 5, none⟩ = some (.int .u8 x5.toNat) ∧ W.cell? ⟨g, 6, none⟩ = some (.int .u8 x6.toNat) ∧ W.cell? ⟨g, 7, none⟩ = some (.int .u8 x7.toNat))
    ((refine ALL _ ?_; first | (with_reducible exact Q4) | (with_reducible exact Q3) | (with_reducible exact Q2) | (with_reducible exact Q1) | (with_reducible exact Q0) | (with_reducible exact (Keep.refl _))))
    (first
      | (go_at_call_of 134 (Value.int IntKind.u8 (x0.toNat : Int)); refine (C0 _).mono ?_; rintro e y1 ⟨rfl, q1⟩; have Q1 : Keep w1 y1 := ((Keep.refl w1).drew).trans q1)
      | (go_at_call_of 135 (Value.int IntKind.u8 (x1.toNat : Int)); refine (C1 _).mono ?_; rintro e y2 ⟨rfl, q2⟩; have Q2 : Keep w1 y2 := (Q1).trans q2)
      | (go_at_call_of 136 (Value.int IntKind.u8 (x2.toNat : Int)); refine (C2 _).mono ?_; rintro e y3 ⟨rfl, q3⟩; have Q3 : Keep w1 y3 := (Q2).trans q3)
      | (go_at_call_of 137 (Value.int IntKind.u8 (x3.toNat : Int)); refine (C3 _).mono ?_; rintro e y4 ⟨rfl, q4⟩; have Q4 : Keep w1 y4 := (Q3).trans q4))
  clear Q1 Q2 Q3 q1 q2 q3 q4 C0 C1 C2 C3
  have P0 : Keep w1 y4.drew := Q4.drew
  have KB := fun W (hk : Keep w1 W) => hk.alloc (.cells ((cMix t1 t2 t3 t4 t5 t6 t7 t8).map cb).toArray 5)
  go_wp2_with fail
  go_region_held3 (fun W => W.cell? ⟨g, 0, none⟩ = some (.int .u8 x0.toNat) ∧ W.cell? ⟨g, 1, none⟩ = some (.int .u8 x1.toNat) ∧ W.cell? ⟨g, 2, none⟩ = some (.int .u8 x2.toNat) ∧ W.cell? ⟨g, 3, none⟩ = some (.int .u8 x3.toNat) ∧ W.cell? ⟨g, 4, none⟩ = some (.int .u8 x4.toNat) ∧ W.cell? ⟨g, 5, none⟩ = some (.int .u8 x5.toNat) ∧ W.cell? ⟨g, 6, none⟩ = some (.int .u8 x6.toNat) ∧ W.cell? ⟨g, 7, none⟩ = some (.int .u8 x7.toNat))
    ((refine ALL _ ?_; first | (with_reducible exact Q9) | (with_reducible exact KL) | (with_reducible exact Q8) | (with_reducible exact Q7) | (with_reducible exact Q6) | (with_reducible exact Q5) | (with_reducible exact P0) | (with_reducible exact Q4) | exact KL))
    (first
      | (go_at_call_of 135 (Value.int IntKind.u8 (x4.toNat : Int)); refine (C4 _).mono ?_; rintro e y5 ⟨rfl, q5⟩; have Q5 : Keep w1 y5 := (P0).trans q5)
      | (go_at_call_of 136 (Value.int IntKind.u8 (x5.toNat : Int)); refine (C5 _).mono ?_; rintro e y6 ⟨rfl, q6⟩; have Q6 : Keep w1 y6 := (Q5).trans q6)
      | (go_at_call_of 137 (Value.int IntKind.u8 (x6.toNat : Int)); refine (C6 _).mono ?_; rintro e y7 ⟨rfl, q7⟩; have Q7 : Keep w1 y7 := (Q6).trans q7)
      | (go_at_call_of 134 (Value.int IntKind.u8 (x7.toNat : Int)); refine (C7 _).mono ?_; rintro e y8 ⟨rfl, q8⟩; have Q8 : Keep w1 y8 := (Q7).trans q8; have KL := KB _ Q8))
  have OL : Bs (y8.alloc (.cells #[.int .u8 (t1 ^^^ t3 ^^^ t4 ^^^ t6 ^^^ t7 ^^^ t8).toNat, .int .u8 (t1 ^^^ t2 ^^^ t4 ^^^ t5 ^^^ t7 ^^^ t8).toNat, .int .u8 (t1 ^^^ t2 ^^^ t3 ^^^ t5 ^^^ t6 ^^^ t8).toNat, .int .u8 (t2 ^^^ t3 ^^^ t4 ^^^ t5 ^^^ t6 ^^^ t7).toNat, .int .u8 (t1 ^^^ t2 ^^^ t6 ^^^ t7 ^^^ t8).toNat, .int .u8 (t2 ^^^ t3 ^^^ t5 ^^^ t7 ^^^ t8).toNat, .int .u8 (t3 ^^^ t4 ^^^ t5 ^^^ t6 ^^^ t8).toNat, .int .u8 (t1 ^^^ t4 ^^^ t5 ^^^ t6 ^^^ t7).toNat] 5)) (.slice (some ⟨y8.heap.size, 0, none⟩) 8 8) (cMix t1 t2 t3 t4 t5 t6 t7 t8) := (Own.lit (B := y8.heap.size) (e := 5) (w := y8) ((cMix t1 t2 t3 t4 t5 t6 t7 t8).map cb) (Nat.le_refl _) (by simp [cMix, maxLen])).bs
  go_wp2_with fail
  refine (number_c _ (cMix t1 t2 t3 t4 t5 t6 t7 t8) _ OL (by simp [cMix])).mono ?_
  rintro e y9 ⟨rfl, q9⟩
  have Q9 : Keep w1 y9 := KL.trans q9
  go_wp2_with fail
  go_ret
  refine ⟨?_, k1.trans Q9⟩
  rw [HX.out]
  rw [← HTS.out]
  rfl
end Go.Proofs.Qxb6500771aGreat
