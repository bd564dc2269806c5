/- modesm: CTSEncrypt. -/
import Derived.Test.Qxb6500771aGreatGc
namespace Go.Proofs.Qxb6500771aGreat
open Go.RowKit Go.Qm
set_option linter.unusedVariables false
set_option linter.unusedSimpArgs false
attribute [local go_sem ↓] Go.wp_at_zero Go.wp_at_succ
def ovr (n : Nat) : Nat := (n + 15) / 16
theorem blocksOver_c (n : Nat) (w : World) (hn : n ≤ 3000000) : Calls Tryz.prog 91 #[.int .i64 (n : Nat), .int .i64 16] w fun e w' => e = .returned (.int .i64 ((16 * ovr n : Nat) : Int)) ∧ w' = w := by
  have x1 : IntKind.i64.wrap ((n : Int) + 16) = (n : Int) + 16 := by rw [IntKind.wrap_i64] <;> omega
  have x2 : IntKind.i64.wrap ((n : Int) + 16 - 1) = ((n + 15 : Nat) : Int) := by rw [IntKind.wrap_i64] <;> omega
  have x3 : ((n + 15 : Nat) : Int).tdiv 16 = ((ovr n : Nat) : Int) := (Int.ofNat_tdiv (n + 15) 16).symm
  have ho : ovr n ≤ 200000 := by unfold ovr; omega
  have hz : ovr n = (n + 15) / 16 := rfl
  have HZ : Hid (((16 * ovr n : Nat) : Int) = ((ovr n : Nat) : Int) * 16) := Hid.mk (by push_cast; omega)
  clear hz
  generalize ovr n = o at *
  have x4 : IntKind.i64.wrap ((o : Int) * 16) = (o : Int) * 16 := by rw [IntKind.wrap_i64] <;> omega
  rw [HZ.out]
  generalize n + 15 = n15 at *
  go_enter Tryz.func91, Tryz.ntmps91
  go_wp2
  go_ret
  exact ⟨rfl, rfl⟩
/-- Some octets, so many. -/
def RN (w : World) (n : Nat) (e : Ending) (w' : World) : Prop := ∃ (a : Option Addr) (c : Nat) (l : List UInt8), e = .returned (.slice a n c) ∧ l.length = n ∧ Bs w' (.slice a n c) l ∧ Keep w w'
theorem bs_rn {w w' : World} {v : Value} {l : List UInt8} {n : Nat} (h : Bs w' v l) (k : Keep w w') (hl : l.length = n) : RN w n (.returned v) w' := by
  obtain ⟨a, c, rfl, -, -, -⟩ := h.form
  rw [hl] at h ⊢
  exact ⟨a, c, l, rfl, hl, h, k⟩
set_option maxRecDepth 4000 in
set_option maxHeartbeats 4000000 in
theorem cts_c (al : Int) (ka : Option Addr) (kn kc : Nat) (key : List UInt8) (f : List UInt8 → List UInt8) (hE : Enc al (.slice ka kn kc) key f) (hA : Alg al) (iv pv : Value) (i p : List UInt8) (w : World) (hk : Bs w (.slice ka kn kc) key) (hi : Bs w iv i) (hp : Bs w pv p) (hil : i.length = 16) (n : Nat) (hpl : p.length = n) (hn : 16 ≤ n) (hn9 : n ≤ 3000000) :
    Calls Tryz.prog 80 #[.agg #[.int .i64 al, .slice ka kn kc], iv, pv] w (RN w n) := by
  obtain ⟨pa, pc, rfl, hpc, hpm, -⟩ := hp.form
  obtain ⟨ia, ic, rfl, hic, him, -⟩ := hi.form
  unfold maxLen at hpm him
  have HFL := Hid.mk hE.1
  have HP := Hid.mk hp
  have HI := Hid.mk hi
  rw [hpl] at HP hpc ⊢
  rw [hil] at HI hic ⊢
  obtain ⟨W, hW⟩ : ∃ W, W = w.alloc (.cells #[.int .i64 al, .slice ka kn kc] 123) := ⟨_, rfl⟩
  have kW : Keep w W := by rw [hW]; exact (Keep.refl w).alloc _
  have aW : Arr W w.heap.size 123 [.int .i64 al, .slice ka kn kc] := by rw [hW]; exact Arr.new w 123 _
  obtain ⟨g3, hg3⟩ : ∃ g3, g3 = w.heap.size := ⟨_, rfl⟩
  rw [← hg3] at aW
  have BS := Hid.mk (cBlockSize_c al ka kn kc W hA)
  have a0 : W.cell? ⟨g3, 0, none⟩ = some (.int .i64 al) := aW.cell 0
  have a1 : W.cell? ⟨g3, 1, none⟩ = some (.slice ka kn kc) := aW.cell 1
  have HAW := Hid.mk aW
  have HKW := Hid.mk kW
  have HE := Hid.mk hE
  have HA := Hid.mk hA
  have HK := Hid.mk hk
  have HIL := Hid.mk hil
  have HPL := Hid.mk hpl
  have hni : (n : Int) ≤ 3000000 := by omega
  clear hE hk hi hp hil hpl kW aW hA
  go_enter Tryz.func80, Tryz.ntmps80
  go_upto_region 1 with fail
  rw [← hg3, ← hW]
  clear hg3 hW
  go_wp2_with fail
  refine BS.out.mono ?_
  rintro e w1 ⟨rfl, k1⟩
  have b0 := k1.cell a0
  have b1 := k1.cell a1
  have HK1 := Hid.mk k1
  have HKK1 := Hid.mk (HKW.out.trans k1)
  clear a0 a1 k1
  by_cases h16 : n = 16
  · have y1 : ((n : Int) == 16) = true := by simp; omega
    have CB := Hid.mk (cbc_c al ka kn kc key f HE.out HA.out _ _ i p 1 w1 (HK.out.keep HKK1.out) (HI.out.keep HKK1.out) (HP.out.keep HKK1.out) HIL.out (by rw [HPL.out, h16]) (by omega))
    have HCL : Hid ((cbO f i p 1).length = n) := Hid.mk (by rw [cbO_length HFL.out HIL.out (m := 1) (by rw [HPL.out, h16]) 1 (by omega), h16])
    clear h16
    go_wp2_with fail
    refine CB.out.mono ?_
    rintro e w2 ⟨v2, rfl, o2, k2⟩
    have HR := Hid.mk (bs_rn o2.bs (HKK1.out.trans k2) HCL.out)
    clear o2 k2
    go_wp2_with fail
    go_ret
    exact HR.out
  · have y1 : ((n : Int) == 16) = false := by simp; omega
    have BO := Hid.mk (blocksOver_c n w1 hn9)
    obtain ⟨F, hF⟩ : ∃ F, F = 16 * ovr n := ⟨_, rfl⟩
    rw [← hF] at BO
    have hF1 : n ≤ F := by rw [hF]; unfold ovr; omega
    have hF2 : 32 ≤ F := by rw [hF]; unfold ovr; omega
    have hF3 : F ≤ n + 15 := by rw [hF]; unfold ovr; omega
    have hO : ovr n ≤ 200000 := by unfold ovr; omega
    have HF := Hid.mk hF
    clear hF
    go_wp2_with fail
    refine BO.out.mono ?_
    rintro e y ⟨rfl, hy⟩
    have hy2 := hy.symm
    clear hy
    subst hy2
    have z1 : IntKind.i64.wrap ((F : Int) - n) = ((F - n : Nat) : Int) := by rw [IntKind.wrap_i64] <;> omega
    have RC : Hid (∀ Z, Calls Tryz.prog 27 #[.int .u8 0, .int .i64 ((F - n : Nat) : Int)] Z fun e w' => ∃ v', e = .returned v' ∧ Own Z.heap.size 5 w' v' ((List.replicate (F - n) 0).map cb) ∧ Keep Z w') := Hid.mk (fun Z => repeat_c 0 (F - n) Z (by omega))
    have HPQ : Hid ((p ++ List.replicate (F - n) 0).length = 16 * ovr n) := Hid.mk (by rw [List.length_append, List.length_replicate, HPL.out, ← HF.out]; omega)
    have HFN : Hid (F - n ≤ 15) := Hid.mk (by omega)
    generalize hfn : F - n = fn at *
    clear hfn
    have HALL : Hid (∀ Z, Keep w1 Z → Z.cell? ⟨g3, 0, none⟩ = some (.int .i64 al) ∧ Z.cell? ⟨g3, 1, none⟩ = some (.slice ka kn kc)) := Hid.mk (fun Z kz => ⟨kz.cell b0, kz.cell b1⟩)
    have Q0 : Keep w1 w1.drew := (Keep.refl w1).drew
    go_wp2_with fail
    go_region_held3 (fun Z => Z.cell? ⟨g3, 0, none⟩ = some (.int .i64 al) ∧ Z.cell? ⟨g3, 1, none⟩ = some (.slice ka kn kc))
      ((refine HALL.out _ ?_; first | (with_reducible exact Q3) | (with_reducible exact Q2) | (with_reducible exact Q1) | (with_reducible exact Q0) | (with_reducible exact (Keep.refl _))))
      (first
      | (go_at_call 27; refine (RC.out _).mono ?_; rintro e y1 ⟨u1, rfl, o1, q1⟩; have Q1 : Keep w1 y1 := Q0.trans q1)
      | (go_at_call 78; refine (join_c _ _ p (List.replicate fn 0) _ (HP.out.keep (HKK1.out.trans Q1)) o1.bs (by rw [HPL.out, List.length_replicate]; have := HFN.out; omega)).mono ?_; rintro e y2 ⟨u2, rfl, o2, q2⟩; have Q2 : Keep w1 y2 := Q1.trans q2)
      | (go_at_call 93; refine (cbc_c al ka kn kc key f HE.out HA.out _ _ i (p ++ List.replicate fn 0) (ovr n) _ (HK.out.keep (HKK1.out.trans Q2)) (HI.out.keep (HKK1.out.trans Q2)) o2.bs HIL.out HPQ.out hO).mono ?_; rintro e y3 ⟨u3, rfl, o3, q3⟩; have Q3 : Keep w1 y3 := Q2.trans q3))
    obtain ⟨T, hT⟩ : ∃ T, T = cbO f i (p ++ List.replicate fn 0) (ovr n) := ⟨_, rfl⟩
    rw [← hT] at o3
    have hTL : T.length = F := by rw [hT, cbO_length HFL.out HIL.out HPQ.out _ (Nat.le_refl _), HF.out]
    obtain ⟨ta, tc, htv, tc1, tc2, -⟩ := o3.bs.form
    rw [hTL] at htv tc1
    unfold maxLen at tc2
    subst htv
    have HT := Hid.mk o3.bs
    have HTL := Hid.mk hTL
    have HK3 := Hid.mk Q3
    rename_i hHd
    clear hHd b0 b1 o1 o2 o3 q1 q2 q3 Q0 Q1 Q2 Q3 hT hTL
    obtain ⟨F32, hF32⟩ : ∃ F32, F32 = F - 32 := ⟨_, rfl⟩
    obtain ⟨F16, hF16⟩ : ∃ F16, F16 = F - 16 := ⟨_, rfl⟩
    have x0 : IntKind.i64.wrap ((2 : Int) * 16) = 32 := by rw [IntKind.wrap_i64] <;> omega
    have x0' : IntKind.i64.wrap (32 : Int) = 32 := by rw [IntKind.wrap_i64] <;> omega
    have x1 : IntKind.i64.wrap ((F : Int) - 32) = (F32 : Int) := by rw [IntKind.wrap_i64] <;> omega
    have x2 : IntKind.i64.wrap ((F : Int) - 16) = (F16 : Int) := by rw [IntKind.wrap_i64] <;> omega
    have x3 : (F32 : Int) ≤ tc := by omega
    have x4 : (F16 : Int) ≤ tc := by omega
    have x5 : (F : Int) ≤ tc := by omega
    have x6 : ¬ tc = F16 := by omega
    have x7 : ¬ tc = F32 := by omega
    have x8 : (F32 : Int) ≤ F16 := by omega
    have x9 : (F16 : Int) ≤ F := by omega
    have x10 : (0 : Int) ≤ F32 := by omega
    have x11 : (0 : Int) ≤ F16 := by omega
    have B1 : Hid (Bs y3 (.slice ta F32 tc) (T.take F32)) := Hid.mk (by
      have h8 := HT.out.part (i := 0) (j := F32) (by omega) (by omega) ta (fun _ => by cases ta <;> simp [Addr.add])
      simpa using h8)
    have B2 : Hid (Bs y3 (.slice (ta.map (·.add F16)) (F - F16) (tc - F16)) ((T.drop F16).take (F - F16))) := Hid.mk (HT.out.part (i := F16) (j := F) (by omega) (Nat.le_refl _) (ta.map (·.add F16)) (fun _ => rfl))
    have B3 : Hid (Bs y3 (.slice (ta.map (·.add F32)) (F16 - F32) (tc - F32)) ((T.drop F32).take (F16 - F32))) := Hid.mk (HT.out.part (i := F32) (j := F16) (by omega) (by omega) (ta.map (·.add F32)) (fun _ => rfl))
    have L1 : Hid ((T.take F32).length = F32) := Hid.mk (by rw [List.length_take, HTL.out]; omega)
    have L2 : Hid (((T.drop F16).take (F - F16)).length = 16) := Hid.mk (by rw [List.length_take, List.length_drop, HTL.out]; omega)
    have L3 : Hid (((T.drop F32).take (F16 - F32)).length = 16) := Hid.mk (by rw [List.length_take, List.length_drop, HTL.out]; omega)
    have HF32 := Hid.mk hF32
    have P0 : Keep y3 y3.drew := (Keep.refl y3).drew
    clear hF32 hF16
    go_wp2_with fail
    go_region_held3 (fun Z => True) (trivial)
      (first
      | (go_at_call 78; (fail_if_success have := P1); refine (join_c _ _ ((T.drop F16).take (F - F16)) ((T.drop F32).take (F16 - F32)) _ (B2.out.keep P0) (B3.out.keep P0) (by rw [L2.out, L3.out]; omega)).mono ?_; rintro e t1 ⟨u4, rfl, o4, r1⟩; have P1 : Keep y3 t1 := P0.trans r1)
      | (go_at_call 78; refine (join_c _ _ (T.take F32) ((T.drop F16).take (F - F16) ++ (T.drop F32).take (F16 - F32)) _ (B1.out.keep P1) o4.bs (by rw [List.length_append, L1.out, L2.out, L3.out]; have := HF32.out; omega)).mono ?_; rintro e t2 ⟨u5, rfl, o5, r2⟩; have P2 : Keep y3 t2 := P1.trans r2))
    obtain ⟨S, hS⟩ : ∃ S, S = T.take F32 ++ ((T.drop F16).take (F - F16) ++ (T.drop F32).take (F16 - F32)) := ⟨_, rfl⟩
    rw [← hS] at o5
    have hSL : S.length = F := by rw [hS, List.length_append, List.length_append, L1.out, L2.out, L3.out]; have := HF32.out; omega
    obtain ⟨sa, sc, hsv, sc1, sc2, -⟩ := o5.bs.form
    rw [hSL] at hsv sc1
    unfold maxLen at sc2
    subst hsv
    have HR : Hid (RN w n (.returned (.slice sa n sc)) t2) := Hid.mk (by
      have h8 := o5.bs.part (i := 0) (j := n) (by omega) hF1 sa (fun _ => by cases sa <;> simp [Addr.add])
      have h9 : Bs t2 (.slice sa n sc) (S.take n) := by simpa using h8
      exact bs_rn h9 (HKK1.out.trans (HK3.out.trans P2)) (by rw [List.length_take, hSL]; omega))
    have v1 : (n : Int) ≤ sc := by omega
    have v2 : (0 : Int) ≤ n := by omega
    have v3 : (sc : Int) ≤ 9223372036854775807 := by omega
    clear o4 o5 hS hSL r1 r2 P0 P1 P2
    go_wp2_with fail
    go_ret
    exact HR.out
end Go.Proofs.Qxb6500771aGreat
