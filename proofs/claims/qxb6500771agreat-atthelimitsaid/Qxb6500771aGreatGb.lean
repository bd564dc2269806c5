/- modesm: KDFFeedback. -/
import Derived.Test.Qxb6500771aGreatGa
import Derived.Test.Qxb6500771aGreatEi
import Derived.Test.Qxb6500771aGreatFe
import Derived.Deep.RegionHeld3
namespace Go.Proofs.Qxb6500771aGreat
open Go.RowKit Go.Qm
set_option linter.unusedVariables false
set_option linter.unusedSimpArgs false
attribute [local go_sem ↓] Go.wp_at_zero Go.wp_at_succ
theorem lastB_length (K1 K2 m : List UInt8) : (lastB K1 K2 m).length = 16 := by
  unfold lastB
  have hn : nbl m = if m.length = 0 then 0 else (m.length + 15) / 16 - 1 := rfl
  split
  · rename_i h
    rw [xorl_length, List.length_drop, hn, if_neg h.1]
    omega
  · rename_i h
    rw [xorl_length, fill_length]
    rw [List.length_drop, hn]
    split
    · omega
    · have : ¬ (m.length % 16 = 0) := fun e => h ⟨by assumption, e⟩
      omega
theorem cmac_length {f : List UInt8 → List UInt8} (hf : ∀ l, l.length = 16 → (f l).length = 16) (m : List UInt8) : (cmac f m).length = 16 := hf _ (by rw [xorl_length, lastB_length])
def fbK (f : List UInt8 → List UInt8) (fx : List UInt8) : Nat → List UInt8
  | 0 => Z16
  | i + 1 => cmac f ((fbK f fx i ++ dig (i + 1) 4) ++ fx)
def fbO (f : List UInt8 → List UInt8) (fx : List UInt8) : Nat → List UInt8
  | 0 => []
  | i + 1 => fbO f fx i ++ fbK f fx (i + 1)
theorem fbK_length {f : List UInt8 → List UInt8} (hf : ∀ l, l.length = 16 → (f l).length = 16) (fx : List UInt8) : ∀ i, (fbK f fx i).length = 16
  | 0 => Z16_length
  | i + 1 => cmac_length hf _
theorem fbO_length {f : List UInt8 → List UInt8} (hf : ∀ l, l.length = 16 → (f l).length = 16) (fx : List UInt8) : ∀ i, (fbO f fx i).length = 16 * i
  | 0 => rfl
  | i + 1 => by rw [fbO, List.length_append, fbO_length hf fx i, fbK_length hf, Nat.mul_succ]
set_option maxRecDepth 4000 in
set_option maxHeartbeats 4000000 in
theorem kdfFeedback_c (al : Int) (ka : Option Addr) (kn kc : Nat) (key : List UInt8) (f : List UInt8 → List UInt8) (hE : Enc al (.slice ka kn kc) key f) (lv cv : Value) (l c : List UInt8) (m : Nat) (w : World) (hk : Bs w (.slice ka kn kc) key) (hl : Bs w lv l) (hc : Bs w cv c) (hll : l.length ≤ 1000) (hcl : c.length ≤ 1000) (hm : m ≤ 2) (M : Nat) (hM : M = 16 * m) :
    Calls Tryz.prog 87 #[.agg #[.int .i64 al, .slice ka kn kc], lv, cv, .int .i64 ((M : Nat) : Int)] w (RB w (fbO f (fixF l c M) m)) := by
  have hfl := hE.1
  obtain ⟨W, hW⟩ : ∃ W, W = w.alloc (.cells #[.int .i64 al, .slice ka kn kc] 123) := ⟨_, rfl⟩
  have kW : Keep w W := by rw [hW]; exact (Keep.refl w).alloc _
  have aW : Arr W w.heap.size 123 [.int .i64 al, .slice ka kn kc] := by rw [hW]; exact Arr.new w 123 _
  obtain ⟨g4, hg4⟩ : ∃ g4, g4 = w.heap.size := ⟨_, rfl⟩
  rw [← hg4] at aW
  obtain ⟨V, hV⟩ : ∃ V, V = W.alloc (.cells #[] 5) := ⟨_, rfl⟩
  have kV : Keep W V := by rw [hV]; exact (Keep.refl W).alloc _
  have o0 : Own w.heap.size 5 V (.slice (some ⟨W.heap.size, 0, none⟩) 0 0) (([] : List UInt8).map cb) := by rw [hV]; exact Own.lit [] kW.size (by simp)
  have R16 := Hid.mk (repeat_c 0 16 V (by omega))
  have HE := Hid.mk hE
  have HF := Hid.mk hfl
  have HK := Hid.mk hk
  have HL := Hid.mk hl
  have HC := Hid.mk hc
  have HM := Hid.mk hM
  have hM9 : (M : Int) ≤ 32 := by omega
  have HM9 : Hid (M ≤ 1000) := Hid.mk (by omega)
  have HAV := Hid.mk (aW.keep kV)
  have HKV := Hid.mk (kW.trans kV)
  have HO0 := Hid.mk o0
  generalize hfx : fixF l c M = fx
  have HFX := Hid.mk hfx
  have HFXL : Hid (fx.length ≤ 2005) := Hid.mk (by rw [← hfx, fixF_length]; omega)
  clear hE hfl hk hl hc hM kW aW kV o0 hfx
  go_enter Tryz.func87, Tryz.ntmps87
  go_upto_region 1 with fail
  rw [← hg4, ← hW]
  clear hg4 hW
  go_upto_region 2 with fail
  rw [← hV]
  clear hV
  generalize W.heap.size = g9 at *
  go_wp2_with fail
  refine R16.out.mono ?_
  rintro e w1 ⟨v1, rfl, o1, k1⟩
  have HO1 : Hid (Own w.heap.size 5 w1 v1 ((fbK f fx 0).map cb)) := Hid.mk (o1.mono HKV.out.size)
  have HK1 := Hid.mk k1
  have HOO1 := Hid.mk (HO0.out.keep k1)
  clear o1 k1
  go_wp2_with fail
  go_loopg [9, 10, 11] m (fun gk ov kv iv wr => ∃ (k : Nat) (ov' kv' : Value), k + gk = m ∧ iv = .int .i64 ((k : Int) + 1) ∧ ov = ov' ∧ kv = kv' ∧ Own w.heap.size 5 wr ov' ((fbO f fx k).map cb) ∧ Own w.heap.size 5 wr kv' ((fbK f fx k).map cb) ∧ Keep V wr)
  case atStart => exact ⟨0, _, _, by omega, rfl, rfl, rfl, HOO1.out, HO1.out, HK1.out⟩
  case round =>
    obtain ⟨k, ov, kv, hkk, rfl, rfl, rfl, oo, ok, kw⟩ := hrel
    have HKK := Hid.mk hkk
    have HOO := Hid.mk oo
    have HOK := Hid.mk ok
    have HKX := Hid.mk kw
    obtain ⟨xa, xc, hkv, -, -, -⟩ := ok.bs.form
    obtain ⟨ya, yc, hov, yc1, yc2, -⟩ := oo.bs.form
    rw [fbK_length HF.out] at hkv
    rw [fbO_length HF.out] at hov yc1
    unfold maxLen at yc2
    clear hkk oo ok kw
    by_cases hlt : k < m
    · obtain ⟨q, hq⟩ : ∃ q, q = 16 * k := ⟨_, rfl⟩
      rw [← hq] at hov
      have i1 : (q : Int) < (M : Int) := by have := HM.out; omega
      clear hq
      subst hkv hov
      have c0 : wr.cell? ⟨g4, 0, none⟩ = some (.int .i64 al) := (HAV.out.keep HKX.out).cell 0
      have c1 : wr.cell? ⟨g4, 1, none⟩ = some (.slice ka kn kc) := (HAV.out.keep HKX.out).cell 1
      have u1 : IntKind.u64.wrap ((k : Int) + 1) = ((k + 1 : Nat) : Int) := by rw [← wrap_u64' (k + 1) (by omega)]; simp
      have u1' : IntKind.u64.wrap ((k : Int) + 1) = (k : Int) + 1 := by rw [u1]; simp
      have D1 : Hid (∀ Z, Calls Tryz.prog 70 #[.int .u64 ((k : Int) + 1), .int .i64 4] Z fun e w' => ∃ v', e = .returned v' ∧ Own Z.heap.size 5 w' v' ((dig (k + 1) 4).map cb) ∧ Keep Z w') := Hid.mk (fun Z => by
        have h9 := digits_c (k + 1) 4 Z (by omega) (by omega)
        simpa using h9)
      have ALL : ∀ Z, Keep wr Z → Z.cell? ⟨g4, 0, none⟩ = some (.int .i64 al) ∧ Z.cell? ⟨g4, 1, none⟩ = some (.slice ka kn kc) := fun Z kz => ⟨kz.cell c0, kz.cell c1⟩
      have Q0 : Keep wr wr.drew := (Keep.refl wr).drew
      have HALL := Hid.mk ALL
      clear u1 ALL
      go_wp2_with fail
      go_region_held3 (fun Z => Z.cell? ⟨g4, 0, none⟩ = some (.int .i64 al) ∧ Z.cell? ⟨g4, 1, none⟩ = some (.slice ka kn kc))
        ((refine HALL.out _ ?_; first | (with_reducible exact Q5) | (with_reducible exact Q4) | (with_reducible exact Q3) | (with_reducible exact Q2) | (with_reducible exact Q1) | (with_reducible exact Q0) | (with_reducible exact (Keep.refl _))))
        (first
        | (go_at_call 70; refine (D1.out _).mono ?_; rintro e y1 ⟨z1, rfl, o1, q1⟩; have Q1 : Keep wr y1 := Q0.trans q1)
        | (go_at_call 78; (fail_if_success have := Q2); refine (join_c _ _ (fbK f fx k) (dig (k + 1) 4) _ (HOK.out.bs.keep Q1) o1.bs (by rw [fbK_length HF.out, dig_length]; omega)).mono ?_; rintro e y2 ⟨z2, rfl, o2, q2⟩; have Q2 : Keep wr y2 := Q1.trans q2)
        | (go_at_call 100; refine (fixed_c _ _ l c M _ (HL.out.keep (HKV.out.trans (HKX.out.trans Q2))) (HC.out.keep (HKV.out.trans (HKX.out.trans Q2))) hll hcl HM9.out).mono ?_; rintro e y3 ⟨z3, rfl, o3, q3⟩; rw [HFX.out] at o3; have Q3 : Keep wr y3 := Q2.trans q3; have o2' := o2.keep q3)
        | (go_at_call 78; refine (join_c _ _ (fbK f fx k ++ dig (k + 1) 4) fx _ o2'.bs o3.bs (by have := HFXL.out; rw [List.length_append, fbK_length HF.out, dig_length]; omega)).mono ?_; rintro e y4 ⟨z4, rfl, o4, q4⟩; have Q4 : Keep wr y4 := Q3.trans q4)
        | (go_at_call 84; refine (mcmac_c al ka kn kc key f ((fbK f fx k ++ dig (k + 1) 4) ++ fx) _ _ HE.out (HK.out.keep (HKV.out.trans (HKX.out.trans Q4))) o4.bs (by have := HFXL.out; rw [List.length_append, List.length_append, fbK_length HF.out, dig_length]; omega)).mono ?_; rintro e y5 ⟨z5, rfl, o5, q5⟩; have Q5 : Keep wr y5 := Q4.trans q5))
      have HO5 : Hid (Own w.heap.size 5 y5 z5 ((fbK f fx (k + 1)).map cb)) := Hid.mk (o5.mono (HKV.out.trans (HKX.out.trans Q4)).size)
      have J6 := Hid.mk (join_c _ z5 (fbO f fx k) (fbK f fx (k + 1)) y5 (HOO.out.bs.keep Q5) HO5.out.bs (by rw [fbO_length HF.out, fbK_length HF.out]; omega))
      have HK5 := Hid.mk (HKX.out.trans Q5)
      rename_i hHd
      clear hHd c0 c1 o1 o2 o2' o3 o4 o5 q1 q2 q3 q4 q5 Q0 Q1 Q2 Q3 Q4 Q5
      go_wp2_with fail
      refine J6.out.mono ?_
      rintro e w6 ⟨v6, rfl, o6, k6⟩
      have HO6 : Hid (Own w.heap.size 5 w6 v6 ((fbO f fx (k + 1)).map cb)) := Hid.mk (o6.mono (HKV.out.trans HK5.out).size)
      have HK6 := Hid.mk (HK5.out.trans k6)
      have HO56 := Hid.mk (HO5.out.keep k6)
      clear o6 k6
      go_wp2_with fail
      go_roundg (gk - 1)
      case measure => have := HKK.out; omega
      case rel => exact ⟨k + 1, _, _, by have := HKK.out; omega, by go_num, rfl, rfl, HO6.out, HO56.out, HK6.out⟩
    · obtain rfl : k = m := by have := HKK.out; omega
      rw [← HM.out] at hov yc1
      have HR : Hid (Bs wr (.slice ya M yc) (fbO f fx k)) := Hid.mk (by rw [← hov]; exact HOO.out.bs)
      subst hkv hov
      have i1 : ¬ ((M : Int) < (M : Int)) := by omega
      have hM2 : (M : Int) ≤ yc := by omega
      have hM3 : (0 : Int) ≤ M := by omega
      have hM4 : (yc : Int) ≤ 9223372036854775807 := by omega
      go_wp2_with fail
      go_ret
      exact ⟨_, rfl, HR.out, HKV.out.trans HKX.out⟩
end Go.Proofs.Qxb6500771aGreat
