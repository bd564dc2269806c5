/- framem: DR. -/
import Derived.Test.Qxb6500771aGreatFd
import Derived.Test.Qxb6500771aGreatEa
import Derived.Deep.CutRange
import Derived.Deep.LoopGhost
namespace Go.Proofs.Qxb6500771aGreat
open Go.RowKit Go.Qm
set_option linter.unusedVariables false
set_option linter.unusedSimpArgs false
attribute [local go_sem ↓] Go.wp_at_zero Go.wp_at_succ
def drB (f : List UInt8 → List UInt8) (s : List UInt8) : Nat → List UInt8
  | 0 => nfK s 5
  | k + 1 => f (drB f s k)
def drO (f : List UInt8 → List UInt8) (s : List UInt8) : Nat → List UInt8
  | 0 => []
  | k + 1 => drO f s k ++ drB f s (k + 1)
theorem drB_length {f : List UInt8 → List UInt8} (hf : ∀ l, l.length = 16 → (f l).length = 16) (s : List UInt8) : ∀ k, (drB f s k).length = 16
  | 0 => nfK_length _ _
  | k + 1 => hf _ (drB_length hf s k)
theorem drO_length {f : List UInt8 → List UInt8} (hf : ∀ l, l.length = 16 → (f l).length = 16) (s : List UInt8) : ∀ k, (drO f s k).length = 16 * k
  | 0 => rfl
  | k + 1 => by rw [drO, List.length_append, drO_length hf s k, drB_length hf, Nat.mul_succ]
/-- A slice that reads l. -/
def RB (w : World) (l : List UInt8) (e : Ending) (w' : World) : Prop := ∃ v', e = .returned v' ∧ Bs w' v' l ∧ Keep w w'
set_option maxRecDepth 4000 in
set_option maxHeartbeats 4000000 in
theorem dr_c (al : Int) (ka : Option Addr) (kn kc : Nat) (key : List UInt8) (f : List UInt8 → List UInt8) (hE : Enc al (.slice ka kn kc) key f) (hA : Alg al) (v : Value) (s : List UInt8) (m : Nat) (w : World) (hk : Bs w (.slice ka kn kc) key) (h : Bs w v s) (hl : s.length = 5) (hm : m ≤ 2) (M : Nat) (hM : M = 16 * m) :
    Calls Tryz.prog 85 #[.agg #[.int .i64 al, .slice ka kn kc], v, .int .i64 ((M : Nat) : Int)] w (RB w (drO f s m)) := by
  obtain ⟨a, c, rfl, hac, hcm, -⟩ := h.form
  unfold maxLen at hcm
  obtain ⟨hfl, hE⟩ := hE
  obtain ⟨W, hW⟩ : ∃ W, W = w.alloc (.cells #[.int .i64 al, .slice ka kn kc] 123) := ⟨_, rfl⟩
  have kW : Keep w W := by rw [hW]; exact (Keep.refl w).alloc _
  have aW : Arr W w.heap.size 123 [.int .i64 al, .slice ka kn kc] := by rw [hW]; exact Arr.new w 123 _
  obtain ⟨g3, hg3⟩ : ∃ g3, g3 = w.heap.size := ⟨_, rfl⟩
  rw [← hg3] at aW
  have HS := Hid.mk h
  have HL := Hid.mk hl
  rw [hl] at HS hac ⊢
  have CP := Hid.mk (copy_c _ s W (HS.out.keep kW) (by omega))
  have HE := Hid.mk hE
  have HF := Hid.mk hfl
  have HK := Hid.mk hk
  have HA := Hid.mk hA
  have HM := Hid.mk hM
  have hM9 : (M : Int) ≤ 32 := by omega
  clear hM
  have HAW := Hid.mk aW
  have HKW := Hid.mk kW
  have BS : Hid (∀ Z, Calls Tryz.prog 89 #[.agg #[.int .i64 al, .slice ka kn kc]] Z fun e w' => e = .returned (.int .i64 16) ∧ Keep Z w') := Hid.mk (fun Z => cBlockSize_c al ka kn kc Z hA)
  clear h hl kW aW hE hfl hk hA
  go_enter Tryz.func85, Tryz.ntmps85
  go_upto_region 1 with fail
  rw [← hg3, ← hW]
  clear hg3 hW
  go_wp2_with fail
  refine CP.out.mono ?_
  rintro e w1 ⟨v1, rfl, o1, k1⟩
  obtain ⟨ba, bc, hb, -, -, -⟩ := o1.bs.form
  rw [HL.out] at hb
  subst hb
  have a0 : w1.cell? ⟨g3, 0, none⟩ = some (.int .i64 al) := (HAW.out.keep k1).cell 0
  have a1 : w1.cell? ⟨g3, 1, none⟩ = some (.slice ka kn kc) := (HAW.out.keep k1).cell 1
  have HK1 := Hid.mk k1
  clear o1 k1
  go_wp2_with fail
  refine (BS.out _).mono ?_
  rintro e w2 ⟨rfl, k2⟩
  have b0 := k2.cell a0
  have b1 := k2.cell a1
  have HK2 := Hid.mk (HK1.out.trans k2)
  clear a0 a1 k2
  go_wp2_with fail
  refine (BS.out _).mono ?_
  rintro e w3 ⟨rfl, k3⟩
  have HK3 := Hid.mk (HK2.out.trans k3)
  have NF := Hid.mk (nfold_c _ s w3 (HS.out.keep (HKW.out.trans HK3.out)) HL.out)
  clear b0 b1 k3
  go_wp2_with fail
  refine NF.out.mono ?_
  rintro e w4 ⟨v4, rfl, o4, k4⟩
  have HK4 := Hid.mk (HK3.out.trans k4)
  have HO4 : Hid (Own w.heap.size 5 w4 v4 ((drB f s 0).map cb)) := Hid.mk (o4.mono (HKW.out.trans HK3.out).size)
  clear o4 k4
  obtain ⟨W5, hW5⟩ : ∃ W5, W5 = w4.alloc (.cells #[] 5) := ⟨_, rfl⟩
  have k5 : Keep w4 W5 := by rw [hW5]; exact (Keep.refl w4).alloc _
  have o5 : Own w.heap.size 5 W5 (.slice (some ⟨w4.heap.size, 0, none⟩) 0 0) (([] : List UInt8).map cb) := by rw [hW5]; exact (Own.lit [] (HKW.out.trans HK4.out).size (by simp))
  have HO5 := Hid.mk o5
  have HB5 := Hid.mk (HO4.out.keep k5)
  have HK5 := Hid.mk (HK4.out.trans k5)
  clear o5 k5
  go_upto_region 5 with fail
  rw [← hW5]
  clear hW5
  generalize w4.heap.size = g8 at *
  go_loopg [7, 8] m (fun gk bv ov wr => ∃ (k : Nat) (bv' ov' : Value), k + gk = m ∧ bv = bv' ∧ ov = ov' ∧ Own w.heap.size 5 wr bv' ((drB f s k).map cb) ∧ Own w.heap.size 5 wr ov' ((drO f s k).map cb) ∧ Keep W5 wr)
  case atStart => exact ⟨0, _, _, by omega, rfl, rfl, HB5.out, HO5.out, Keep.refl _⟩
  case round =>
    obtain ⟨k, bv, ov, hkk, rfl, rfl, ob, oo, kw⟩ := hrel
    have HKK := Hid.mk hkk
    have HOB := Hid.mk ob
    have HOO := Hid.mk oo
    have HKX := Hid.mk kw
    obtain ⟨xa, xc, hbv, -, -, -⟩ := ob.bs.form
    obtain ⟨ya, yc, hov, yc1, yc2, -⟩ := oo.bs.form
    rw [drB_length HF.out] at hbv
    rw [drO_length HF.out] at hov yc1
    unfold maxLen at yc2
    clear hkk ob oo kw
    by_cases hlt : k < m
    · obtain ⟨q, hq⟩ : ∃ q, q = 16 * k := ⟨_, rfl⟩
      rw [← hq] at hov
      have i1 : (q : Int) < (M : Int) := by have := HM.out; omega
      clear hq
      have c0 : wr.cell? ⟨g3, 0, none⟩ = some (.int .i64 al) := (HAW.out.keep (HK5.out.trans HKX.out)).cell 0
      have c1 : wr.cell? ⟨g3, 1, none⟩ = some (.slice ka kn kc) := (HAW.out.keep (HK5.out.trans HKX.out)).cell 1
      have EC := Hid.mk (HE.out wr _ (drB f s k) (HK.out.keep (HKW.out.trans (HK5.out.trans HKX.out))) HOB.out.bs (drB_length HF.out s k))
      subst hbv hov
      go_wp2_with fail
      refine EC.out.mono ?_
      rintro e w6 ⟨v6, rfl, o6, k6⟩
      have JC := Hid.mk (join_c _ _ (drO f s k) (f (drB f s k)) w6 (HOO.out.bs.keep k6) o6.bs (by rw [drO_length HF.out, HF.out _ (drB_length HF.out s k)]; omega))
      have HO6 : Hid (Own w.heap.size 5 w6 v6 ((drB f s (k + 1)).map cb)) := Hid.mk (o6.mono (HKW.out.trans (HK5.out.trans HKX.out)).size)
      have HK6 := Hid.mk (HKX.out.trans k6)
      obtain ⟨za, zc, hz, -, -, -⟩ := o6.bs.form
      rw [HF.out _ (drB_length HF.out s k)] at hz
      subst hz
      clear o6 k6 c0 c1
      go_wp2_with fail
      refine JC.out.mono ?_
      rintro e w7 ⟨v7, rfl, o7, k7⟩
      have HO7 : Hid (Own w.heap.size 5 w7 v7 ((drO f s (k + 1)).map cb)) := Hid.mk (o7.mono (HKW.out.trans (HK5.out.trans HK6.out)).size)
      have HK7 := Hid.mk (HK6.out.trans k7)
      have HO67 := Hid.mk (HO6.out.keep k7)
      clear o7 k7
      go_wp2_with fail
      go_roundg (gk - 1)
      case measure => have := HKK.out; omega
      case rel => exact ⟨k + 1, _, _, by have := HKK.out; omega, rfl, rfl, HO67.out, HO7.out, HK7.out⟩
    · obtain rfl : k = m := by have := HKK.out; omega
      rw [← HM.out] at hov yc1
      have HR : Hid (Bs wr (.slice ya M yc) (drO f s k)) := Hid.mk (by rw [← hov]; exact HOO.out.bs)
      subst hbv hov
      have i1 : ¬ ((M : Int) < (M : Int)) := by omega
      have hM2 : (M : Int) ≤ yc := by omega
      have hM3 : (0 : Int) ≤ M := by omega
      have hM4 : (yc : Int) ≤ 9223372036854775807 := by omega
      go_wp2_with fail
      go_ret
      exact ⟨_, rfl, HR.out, HKW.out.trans (HK5.out.trans HKX.out)⟩
end Go.Proofs.Qxb6500771aGreat
