/- The law AtTheLimit: its walk. -/
import Derived.Test.Qxb6500771aGreatKf
import Derived.Test.Qxb6500771aGreatKg
import Derived.Test.Qxb6500771aGreatKh
namespace Go.Proofs.Qxb6500771aGreat
open Go.RowKit Go.Qm
set_option linter.unusedVariables false
set_option linter.unusedSimpArgs false
attribute [local go_sem ↓] Go.wp_at_zero Go.wp_at_succ
/-- What the calls of AtTheLimit answer, in letters. -/
structure AL (n N : Nat) (key msg : List UInt8) (T1 T2 : List UInt8) : Prop where
  r1 : ∀ Z, Calls Tryz.prog 27 #[.int .u8 90, .int .i64 1048576] Z fun x w' => ∃ a c, x = .returned (.slice a n c) ∧ Bs w' (.slice a n c) msg ∧ Keep Z w'
  r2 : ∀ Z, Calls Tryz.prog 27 #[.int .u8 1, .int .i64 16] Z fun x w' => ∃ a c, x = .returned (.slice a 16 c) ∧ Bs w' (.slice a 16 c) key ∧ Keep Z w'
  wr : ∀ Z da ka kc ma mc, Bs Z (.slice ka 16 kc) key → Bs Z (.slice ma n mc) msg → Calls Tryz.prog 13 #[.slice da 0 0, .agg #[.int .i32 17, .slice ka 16 kc], .agg #[.int .u32 24, .int .u8 0, .int .u64 1, .int .u16 0, .int .u16 12, .slice none 0 0], .slice ma n mc] Z fun x w' => ∃ g, x = .returned (.tuple #[.slice (some ⟨g, 0, none⟩) N N, .int .i64 0]) ∧ Bs w' (.slice (some ⟨g, 0, none⟩) N N) T1 ∧ Keep Z w'
  fo : ∀ Z, Calls Tryz.prog 11 #[.int .i32 17, .bool false, .int .u16 0, .int .i64 1048576] Z fun x w' => x = .returned (.int .i64 N) ∧ Keep Z w'
  un : ∀ Z da ka kc g, Bs Z (.slice ka 16 kc) key → Bs Z (.slice (some ⟨g, 0, none⟩) N N) T1 → Calls Tryz.prog 24 #[.slice da 0 0, .agg #[.int .i32 17, .slice ka 16 kc], .agg #[.int .u32 24, .bool false], .slice (some ⟨g, 0, none⟩) N N] Z fun x w' => ∃ g', x = .returned (.tuple #[.slice (some ⟨g', 0, none⟩) n n, .agg #[.int .u16 1284, .int .u8 0, .int .u16 12, .int .u16 12, .int .u64 1], .int .i64 0]) ∧ Bs w' (.slice (some ⟨g', 0, none⟩) n n) msg ∧ Keep Z w'
  mc : ∀ Z da ka kc ma mc, Bs Z (.slice ka 16 kc) key → Bs Z (.slice ma n mc) msg → Calls Tryz.prog 18 #[.slice da 0 0, .agg #[.int .i32 17, .slice ka 16 kc], .agg #[.int .u32 25, .int .u8 0, .int .u64 2, .int .u16 0, .int .u16 0, .slice none 0 0], .slice ma n mc] Z fun x w' => ∃ g, x = .returned (.tuple #[.slice (some ⟨g, 0, none⟩) 28 28, .int .i64 0]) ∧ Bs w' (.slice (some ⟨g, 0, none⟩) 28 28) T2 ∧ Keep Z w'
  ve : ∀ Z ka kc ma mc g, Bs Z (.slice ka 16 kc) key → Bs Z (.slice ma n mc) msg → Bs Z (.slice (some ⟨g, 0, none⟩) 28 28) T2 → Calls Tryz.prog 25 #[.agg #[.int .i32 17, .slice ka 16 kc], .agg #[.int .u32 25, .bool false], .slice (some ⟨g, 0, none⟩) 28 28, .slice ma n mc] Z fun x w' => x = .returned (.tuple #[.agg #[.int .u16 1028, .int .u8 0, .int .u16 0, .int .u16 0, .int .u64 2], .int .i64 0]) ∧ Keep Z w'
theorem rep_call (c : UInt8) (n : Nat) (hn : n ≤ 4000000) (Z : World) : Calls Tryz.prog 27 #[.int .u8 c.toNat, .int .i64 n] Z fun x w' => ∃ a d, x = .returned (.slice a n d) ∧ Bs w' (.slice a n d) (List.replicate n c) ∧ Keep Z w' := by
  refine (repeat_c c n Z hn).mono ?_
  rintro x w' ⟨v, rfl, o, k⟩
  obtain ⟨a, d, hv, -, -, -⟩ := o.bs.form
  rw [List.length_replicate] at hv
  have hb := o.bs
  rw [hv] at hb ⊢
  exact ⟨a, d, rfl, hb, k⟩
theorem al_of : ∃ n N key msg T1 T2, AL n N key msg T1 T2 := by
  have hS : srv 17 := Or.inl rfl
  obtain ⟨n, hn⟩ : ∃ n : Nat, n = 1048576 := ⟨_, rfl⟩
  obtain ⟨msg, hmsg⟩ : ∃ msg : List UInt8, msg = List.replicate n 90 := ⟨_, rfl⟩
  have hml : msg.length = n := by rw [hmsg, List.length_replicate]
  obtain ⟨key, hkey⟩ : ∃ key : List UInt8, key = List.replicate 16 1 := ⟨_, rfl⟩
  have hkl : key.length = kl 17 := by rw [hkey, List.length_replicate]; rfl
  have hcl : cl 17 = 12 := rfl
  have hni : ((n : Nat) : Int) = 1048576 := by omega
  have hrr : 12 % (n + cl 17) = 12 := by rw [hcl]; exact Nat.mod_eq_of_lt (by omega)
  have R1 := fun Z => rep_call 90 n (by omega) Z
  rw [← hmsg, hni] at R1
  have R2 := fun Z => rep_call 1 16 (by decide) Z
  rw [← hkey] at R2
  obtain ⟨N, hN⟩ : ∃ N, N = ovh 17 false 0 + n := ⟨_, rfl⟩
  have hN2 : N = 16 + (n + 12) := by rw [hN, show ovh 17 false 0 = 28 from rfl]; omega
  have FO := fun Z => formula_c 17 false 0 n Z hS (by decide) (by omega)
  rw [← hN, hni] at FO
  have hsl := mcF_length hS (drvF 17 key 24 153) (msg ++ enc 1284 0 0 0 1) (drv_key hS key 24 153 hkl).2.1
  refine ⟨n, N, key, msg, tokU 17 key msg 24 0 1 12 n, tokM 17 key msg 25 0 2, R1, R2, ?_, FO, ?_, ?_, ?_⟩
  · intro Z da ka kc ma mc hk hm
    have := wrapU_c hS da ka 16 kc 24 0 1 12 none 0 0 ma n mc key msg Z hk hkl (by decide) (by decide) (by decide) (by decide) (by decide) hm hml (by omega)
    rw [← hN] at this
    refine this.mono ?_
    rintro x w' ⟨g, t, rfl, -, ht, htl, V, k⟩
    subst ht
    exact ⟨g, rfl, Win.bs V htl.symm (Nat.le_refl _) (by unfold maxLen; omega), k⟩
  · intro Z da ka kc g hk hb
    have hT : tokU 17 key msg 24 0 1 12 n = enc 1284 0 (cl 17) 12 1 ++ rtr (msg ++ mcF 17 (drvF 17 key 24 153) (msg ++ enc 1284 0 0 0 1)) 12 := by rw [tokU, hrr]
    rw [hT] at hb
    have := unwrap_c hS da ka 16 kc 24 g 0 12 1 n N (n + 12) 12 key msg (enc 1284 0 (cl 17) 12 1) Z hcl.symm (by decide) rfl hN2 (by omega) (by omega) (by decide) (by decide) (by decide) (by decide) (by omega) (by decide) (by decide) (by decide) hk hkl hml (enc_length _ _ _ _ _) hb (parse_enc _ (by decide) (by decide) (by decide) (by decide) (by decide))
    refine this.mono ?_
    rintro x w' ⟨g', rfl, -, V, k⟩
    exact ⟨g', rfl, Win.bs V hml.symm (Nat.le_refl _) (by unfold maxLen; omega), k⟩
  · intro Z da ka kc ma mc hk hm
    have := mic_c hS da ka 16 kc 25 0 2 none 0 0 ma n mc key msg Z hk hkl (by decide) (by decide) (by decide) (by decide) hm hml (by omega)
    refine this.mono ?_
    rintro x w' ⟨g, t, rfl, -, ht, htl, V, k⟩
    subst ht
    exact ⟨g, rfl, Win.bs V htl.symm (Nat.le_refl _) (by unfold maxLen; decide), k⟩
  · intro Z ka kc ma mc g hk hm hb
    exact verifyM_c hS ka 16 kc 25 g 0 2 n 28 12 ma mc key msg Z hcl.symm (by decide) rfl (by omega) (by decide) (by decide) (by decide) hk hkl hm hml hb (parse_enc _ (by decide) (by decide) (by decide) (by decide) (by decide))
set_option maxRecDepth 4000 in
set_option maxHeartbeats 4000000 in
theorem atTheLimit_c (w : World) : Calls Tryz.prog 5 #[] w fun e w' => e = .returned (.bool true) ∧ Keep w w' := by
  obtain ⟨n, N, key, msg, T1, T2, C⟩ := al_of
  have HC := Hid.mk C
  clear C
  have y1 : ((N : Int) != (N : Int)) = false := by simp
  go_enter Tryz.func5, Tryz.ntmps5
  go_wp2_with fail
  refine (HC.out.r1 w).mono ?_
  rintro x w1 ⟨ma, mc, rfl, bm, k1⟩
  have HM1 := Hid.mk bm
  have K1 := Hid.mk k1
  clear bm k1
  go_wp2_with fail
  refine (HC.out.r2 w1).mono ?_
  rintro x w2 ⟨ka, kc, rfl, bk, k2⟩
  have kA := (Keep.refl w2).alloc (.cells #[.int .i32 17, .slice ka 16 kc] 43)
  have HM2 := Hid.mk (HM1.out.keep (k2.trans kA))
  have HB2 := Hid.mk (bk.keep kA)
  have K2 := Hid.mk (K1.out.trans (k2.trans kA))
  have A2 := Hid.mk (Arr.new w2 43 [.int .i32 17, .slice ka 16 kc])
  clear bk k2 kA K1 HM1
  go_upto_region 3 with fail
  generalize hWB : w2.alloc (.cells #[.int .i32 17, .slice ka 16 kc] 43) = W at *
  clear hWB
  generalize hpp : w2.heap.size = p2 at *
  clear hpp
  have HALL : Hid (∀ Z, Keep W Z → Z.cell? ⟨p2, 0, none⟩ = some (.int .i32 17) ∧ Z.cell? ⟨p2, 1, none⟩ = some (.slice ka 16 kc)) := Hid.mk (fun Z kz => ⟨(A2.out.keep kz).cell 0, (A2.out.keep kz).cell 1⟩)
  have kB := Hid.mk ((Keep.refl W).alloc (.cells #[] 5))
  obtain ⟨c0, c1⟩ := HALL.out _ kB.out
  go_wp2_with fail
  refine (HC.out.wr _ _ ka kc ma mc (HB2.out.keep kB.out) (HM2.out.keep kB.out)).mono ?_
  rintro x w3 ⟨g, rfl, bt, k3⟩
  have K3 := Hid.mk (kB.out.trans k3)
  have HT3 := Hid.mk bt
  clear bt k3 kB c0 c1
  obtain ⟨c0, c1⟩ := HALL.out _ K3.out
  go_wp2_with fail
  refine (HC.out.fo w3).mono ?_
  rintro x w4 ⟨rfl, k4⟩
  have K4 := Hid.mk (K3.out.trans k4)
  have HT4 := Hid.mk (HT3.out.keep k4)
  clear k4 c0 c1
  have kB := Hid.mk ((Keep.refl w4).alloc (.cells #[] 5))
  obtain ⟨c0, c1⟩ := HALL.out _ (K4.out.trans kB.out)
  go_wp2_with fail
  refine (HC.out.un _ _ ka kc g (HB2.out.keep (K4.out.trans kB.out)) (HT4.out.keep kB.out)).mono ?_
  rintro x w5 ⟨g5, rfl, b5, k5⟩
  have kA := (Keep.refl w5).alloc (.cells #[.int .u16 1284, .int .u8 0, .int .u16 12, .int .u16 12, .int .u64 1] 56)
  have K5 := Hid.mk (K4.out.trans (kB.out.trans (k5.trans kA)))
  have HB5 := Hid.mk (b5.keep kA)
  clear b5 k5 kA kB c0 c1 HT3 HT4
  have SM : Hid (∀ Z, Keep (w5.alloc (.cells #[.int .u16 1284, .int .u8 0, .int .u16 12, .int .u16 12, .int .u64 1] 56)) Z → Calls Tryz.prog 28 #[.slice (some ⟨g5, 0, none⟩) n n, .slice ma n mc] Z fun x w' => x = .returned (.bool true) ∧ Keep Z w') := Hid.mk (fun Z kz => by
    have := same_c (.slice (some ⟨g5, 0, none⟩) n n) (.slice ma n mc) msg msg Z (HB5.out.keep kz) (HM2.out.keep (K5.out.trans kz))
    rw [decide_eq_true (rfl : msg = msg)] at this
    exact this)
  go_wp2_with fail
  refine (SM.out _ (Keep.refl _)).mono ?_
  rintro x w6 ⟨rfl, k6⟩
  have K6 := Hid.mk (K5.out.trans k6)
  clear k6 SM
  have kB := Hid.mk ((Keep.refl w6).alloc (.cells #[] 5))
  obtain ⟨c0, c1⟩ := HALL.out _ (K6.out.trans kB.out)
  go_wp2_with fail
  refine (HC.out.mc _ _ ka kc ma mc (HB2.out.keep (K6.out.trans kB.out)) (HM2.out.keep (K6.out.trans kB.out))).mono ?_
  rintro x w7 ⟨g7, rfl, b7, k7⟩
  have K7 := Hid.mk (K6.out.trans (kB.out.trans k7))
  have HB7 := Hid.mk b7
  clear b7 k7 kB c0 c1
  obtain ⟨c0, c1⟩ := HALL.out _ K7.out
  go_wp2_with fail
  refine (HC.out.ve w7 ka kc ma mc g7 (HB2.out.keep K7.out) (HM2.out.keep K7.out) HB7.out).mono ?_
  rintro x w8 ⟨rfl, k8⟩
  have K8 := Hid.mk (K2.out.trans (K7.out.trans k8))
  clear k8 c0 c1
  go_wp2_with fail
  go_ret
  exact ⟨rfl, K8.out⟩
end Go.Proofs.Qxb6500771aGreat
