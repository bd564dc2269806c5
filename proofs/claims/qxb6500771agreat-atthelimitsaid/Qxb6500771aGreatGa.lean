/- modesm: fixed, KDFCounter. -/
import Derived.Test.Qxb6500771aGreatHm
import Derived.Deep.CutRange
import Derived.Deep.LoopGhost
namespace Go.Proofs.Qxb6500771aGreat
open Go.RowKit Go.Qm
set_option linter.unusedVariables false
set_option linter.unusedSimpArgs false
attribute [local go_sem ↓] Go.wp_at_zero Go.wp_at_succ
def fixF (l c : List UInt8) (n : Nat) : List UInt8 := ((l ++ [0]) ++ c) ++ dig (n * 8) 4
theorem fixF_length (l c : List UInt8) (n : Nat) : (fixF l c n).length = l.length + 1 + c.length + 4 := by simp [fixF, dig_length]; omega
set_option maxRecDepth 4000 in
set_option maxHeartbeats 4000000 in
theorem fixed_c (lv cv : Value) (l c : List UInt8) (n : Nat) (w : World) (hl : Bs w lv l) (hc : Bs w cv c) (h1 : l.length ≤ 1000) (h2 : c.length ≤ 1000) (hn : n ≤ 1000) : Calls Tryz.prog 100 #[lv, cv, .int .i64 (n : Nat)] w fun e w' => ∃ v', e = .returned v' ∧ Own w.heap.size 5 w' v' ((fixF l c n).map cb) ∧ Keep w w' := by
  obtain ⟨W, hW⟩ : ∃ W, W = w.alloc (.cells #[.int .u8 0] 5) := ⟨_, rfl⟩
  have kW : Keep w W := by rw [hW]; exact (Keep.refl w).alloc _
  have b0 : Bs W (.slice (some ⟨w.heap.size, 0, none⟩) 1 1) [0] := by rw [hW]; exact Sl.one (.int .u8 0)
  have J1 := Hid.mk (join_c lv _ l [0] W (hl.keep kW) b0 (by simp; omega))
  have HC := Hid.mk hc
  have HKW := Hid.mk kW
  have u1 : IntKind.u64.wrap (n : Int) = (n : Int) := wrap_u64' _ (by omega)
  have u2 : IntKind.u64.wrap ((n : Int) * 8) = ((n * 8 : Nat) : Int) := by rw [← wrap_u64' (n * 8) (by omega)]; simp
  clear hl hc kW b0
  go_enter Tryz.func100, Tryz.ntmps100
  go_wp2_with fail
  rw [← hW]
  refine J1.out.mono ?_
  rintro e w1 ⟨v1, rfl, o1, k1⟩
  have J2 := Hid.mk (join_c v1 cv (l ++ [0]) c w1 o1.bs (HC.out.keep (HKW.out.trans k1)) (by simp; omega))
  have HK1 := Hid.mk (HKW.out.trans k1)
  clear o1 k1
  go_wp2_with fail
  refine J2.out.mono ?_
  rintro e w2 ⟨v2, rfl, o2, k2⟩
  have HO2 := Hid.mk o2
  have HK2 := Hid.mk (HK1.out.trans k2)
  have D3 := Hid.mk (digits_c (n * 8) 4 w2 (by omega) (by omega))
  clear o2 k2
  generalize hn8 : n * 8 = n8 at *
  have HN8 := Hid.mk hn8
  clear hn8
  go_wp2_with fail
  refine D3.out.mono ?_
  rintro e w3 ⟨v3, rfl, o3, k3⟩
  have J4 := Hid.mk (join_c v2 v3 ((l ++ [0]) ++ c) (dig n8 4) w3 (HO2.out.bs.keep k3) o3.bs (by simp [dig_length]; omega))
  have HK3 := Hid.mk (HK2.out.trans k3)
  clear o3 k3
  go_wp2_with fail
  refine J4.out.mono ?_
  rintro e w4 ⟨v4, rfl, o4, k4⟩
  have HO4 : Hid (Own w.heap.size 5 w4 v4 ((fixF l c n).map cb)) := Hid.mk (by rw [fixF, HN8.out]; exact o4.mono HK3.out.size)
  have HK4 := Hid.mk (HK3.out.trans k4)
  clear o4 k4
  go_wp2_with fail
  go_ret
  exact ⟨_, rfl, HO4.out, HK4.out⟩
def kdfC (h : Nat) (key l c : List UInt8) (n : Nat) : List UInt8 := (hm h key (dig 1 4 ++ fixF l c n)).take n
theorem hm_length (h : Nat) (key text : List UInt8) (h1 : 1 ≤ h) (h3 : h ≤ 3) : (hm h key text).length = hsz h := hsh_length h _ h1 h3
theorem kdfC_length (h : Nat) (key l c : List UInt8) (n : Nat) (h1 : 1 ≤ h) (h3 : h ≤ 3) (hn : n ≤ hsz h) : (kdfC h key l c n).length = n := by
  unfold kdfC
  rw [List.length_take, hm_length h _ _ h1 h3]
  omega
set_option maxRecDepth 4000 in
set_option maxHeartbeats 4000000 in
theorem kdfCounter_c (h : Nat) (kv lv cv : Value) (key l c : List UInt8) (n : Nat) (w : World) (hk : Bs w kv key) (hl : Bs w lv l) (hc : Bs w cv c) (h1 : 1 ≤ h) (h3 : h ≤ 3) (hkl : key.length ≤ 1000) (hll : l.length ≤ 1000) (hcl : c.length ≤ 1000) (hn0 : n ≠ 0) (hn : n ≤ hsz h) :
    Calls Tryz.prog 86 #[.int .i64 (h : Nat), kv, lv, cv, .int .i64 (n : Nat)] w fun e w' => ∃ v', e = .returned v' ∧ Bs w' v' (kdfC h key l c n) ∧ Keep w w' := by
  have hsz1 := hsz_le h
  obtain ⟨W, hW⟩ : ∃ W, W = w.alloc (.cells #[] 5) := ⟨_, rfl⟩
  have kW : Keep w W := by rw [hW]; exact (Keep.refl w).alloc _
  have o0 : Own w.heap.size 5 W (.slice (some ⟨w.heap.size, 0, none⟩) 0 0) (([] : List UInt8).map cb) := by rw [hW]; exact Own.lit [] (Nat.le_refl _) (by simp)
  have HO0 := Hid.mk o0
  have HKW := Hid.mk kW
  have HK := Hid.mk hk
  have HL := Hid.mk hl
  have HC := Hid.mk hc
  have hni : (n : Int) ≤ 48 := by omega
  have hn1 : (0 : Int) < n := by omega
  obtain ⟨M, hM⟩ : ∃ M, M = hm h key (dig 1 4 ++ fixF l c n) := ⟨_, rfl⟩
  have HM := Hid.mk hM
  have HML : Hid (M.length = hsz h) := Hid.mk (by rw [hM]; exact hm_length h _ _ h1 h3)
  have HKD : Hid (kdfC h key l c n = M.take n) := Hid.mk (by rw [kdfC, hM])
  clear hk hl hc o0 kW hM
  go_enter Tryz.func86, Tryz.ntmps86
  go_upto_region 2 with fail
  rw [← hW]
  clear hW
  go_wp2_with fail
  go_loopg [11, 12] 1 (fun gk ov iv wr => ∃ (k : Nat) (ov' : Value), k + gk = 1 ∧ iv = .int .i64 ((k : Int) + 1) ∧ ov = ov' ∧ Own w.heap.size 5 wr ov' ((if k = 0 then [] else M).map cb) ∧ Keep w wr)
  case atStart => exact ⟨0, _, by omega, rfl, rfl, HO0.out, HKW.out⟩
  case round =>
    obtain ⟨k, ov, hkk, rfl, rfl, oo, kw⟩ := hrel
    by_cases hk0 : k = 0
    · subst hk0
      have HKK := Hid.mk hkk
      rw [if_pos rfl] at oo
      have HOO := Hid.mk oo
      have HKX := Hid.mk kw
      obtain ⟨ya, yc, hov, -, -, -⟩ := oo.bs.form
      have D1 := Hid.mk (digits_c 1 4 wr (by decide) (by omega))
      clear oo kw hkk
      subst hov
      go_wp2_with fail
      refine D1.out.mono ?_
      rintro e w1 ⟨v1, rfl, o1, k1⟩
      have F2 := Hid.mk (fixed_c lv cv l c n w1 (HL.out.keep (HKX.out.trans k1)) (HC.out.keep (HKX.out.trans k1)) hll hcl (by omega))
      have HO1 := Hid.mk o1
      have HK1 := Hid.mk (HKX.out.trans k1)
      have HOO1 := Hid.mk (HOO.out.keep k1)
      clear o1 k1
      go_wp2_with fail
      refine F2.out.mono ?_
      rintro e w2 ⟨v2, rfl, o2, k2⟩
      have J3 := Hid.mk (join_c v1 v2 (dig 1 4) (fixF l c n) w2 (HO1.out.bs.keep k2) o2.bs (by rw [dig_length, fixF_length]; omega))
      have HK2 := Hid.mk (HK1.out.trans k2)
      have HOO2 := Hid.mk (HOO1.out.keep k2)
      clear o2 k2
      go_wp2_with fail
      refine J3.out.mono ?_
      rintro e w3 ⟨v3, rfl, o3, k3⟩
      have H4 := Hid.mk (mhmac_c h kv v3 key (dig 1 4 ++ fixF l c n) w3 (HK.out.keep (HK2.out.trans k3)) o3.bs (by omega) (by rw [List.length_append, dig_length, fixF_length]; omega) h1 h3)
      rw [← HM.out] at H4
      have HK3 := Hid.mk (HK2.out.trans k3)
      have HOO3 := Hid.mk (HOO2.out.keep k3)
      clear o3 k3
      go_wp2_with fail
      refine H4.out.mono ?_
      rintro e w4 ⟨v4, rfl, o4, k4⟩
      have J5 := Hid.mk (join_c _ v4 [] M w4 (HOO3.out.bs.keep k4) o4.bs (by have := HML.out; simp; omega))
      have HK4 := Hid.mk (HK3.out.trans k4)
      clear o4 k4
      go_wp2_with fail
      refine J5.out.mono ?_
      rintro e w5 ⟨v5, rfl, o5, k5⟩
      have HO5 : Hid (Own w.heap.size 5 w5 v5 ((if 0 + 1 = 0 then [] else M).map cb)) := Hid.mk (o5.mono HK4.out.size)
      have HK5 := Hid.mk (HK4.out.trans k5)
      clear o5 k5
      go_wp2_with fail
      go_roundg (gk - 1)
      case measure => have := HKK.out; omega
      case rel => exact ⟨0 + 1, _, by have := HKK.out; omega, by go_num, rfl, HO5.out, HK5.out⟩
    · obtain rfl : k = 1 := by omega
      rw [if_neg (by omega)] at oo
      obtain ⟨ya, yc, hov, yc1, yc2, -⟩ := oo.bs.form
      rw [HML.out] at hov yc1
      unfold maxLen at yc2
      have HOO := Hid.mk oo
      have HKX := Hid.mk kw
      have HR : Hid (Bs wr (.slice ya n yc) (M.take n)) := Hid.mk (by
        have h9 := oo.bs
        rw [hov] at h9
        have h8 := h9.part (i := 0) (j := n) (by omega) hn ya (fun _ => by cases ya <;> simp [Addr.add])
        simpa using h8)
      obtain ⟨H, hH⟩ : ∃ H, H = hsz h := ⟨_, rfl⟩
      rw [← hH] at hov yc1 hn
      have i1 : ¬ ((H : Int) < n) := by omega
      have i2 : (n : Int) ≤ yc := by omega
      have i3 : (0 : Int) ≤ n := by omega
      have i4 : (yc : Int) ≤ 9223372036854775807 := by omega
      subst hov
      clear oo kw hkk hH
      go_wp2_with fail
      go_ret
      exact ⟨_, rfl, by rw [HKD.out]; exact HR.out, HKX.out⟩
end Go.Proofs.Qxb6500771aGreat
