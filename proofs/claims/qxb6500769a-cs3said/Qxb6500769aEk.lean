/- modeslaw.cmacAgrees; SumCMAC's refusal. -/
import Derived.Test.Qxb6500769aEj
namespace Go.Proofs.Qxb6500769a
open Go.RowKit Go.Qm
set_option linter.unusedVariables false
set_option linter.unusedSimpArgs false
set_option linter.unnecessarySimpa false
attribute [local go_sem ↓] Go.wp_at_zero Go.wp_at_succ

set_option maxRecDepth 2000 in
set_option maxHeartbeats 2000000 in
theorem sumCMACbad_c (al : Int) (ka : Option Addr) (kn kc : Nat) (mv : Value) (w : World) (hb : bsz16 al = 8) :
    Calls Try.prog 15 #[.agg #[.int .i64 al, .slice ka kn kc], mv] w fun e w' => e = .returned (.tuple #[.slice none 0 0, .int .i64 4]) ∧ Keep w w' := by
  have K0 := (Keep.refl w).alloc (.cells #[.int .i64 al, .slice ka kn kc] 36)
  have NC := fun W => newCMACbad_c al ka kn kc W hb
  have hz := z64
  have hlz := CM_length (al := 0) (kv := .slice none 0 0) (n := 0) Z16_length Z16_length Z16_length Z16_length
  have hlo := CM_one 0 none 0 0 Z16 Z16 Z16 Z16 0
  generalize CM 0 (.slice none 0 0) Z16 Z16 Z16 Z16 0 = L at *
  have HZ := Hid.mk hz
  have HLZ := Hid.mk hlz
  have HLo := Hid.mk hlo
  clear hz hlz hlo hb
  go_enter Try.func15, Try.ntmps15
  go_wp2_with fail
  generalize w.alloc (.cells #[.int .i64 al, .slice ka kn kc] 36) = w1 at *
  refine (NC _).mono ?_
  rintro e w2 ⟨rfl, k2⟩
  have k3 : Keep w2 ((w2.alloc (.cells L.toArray 64)).setRow w2.heap.size L.toArray) := ((Keep.refl w2).alloc _).setRow (Nat.le_refl _) _
  go_wp2_with (first
    | (refine wpList_alloc_z (by rfl) 64 (by rfl) L HZ.out ?_)
    | (refine wpList_store_row (by rfl) 64 (.tmp 6) (.tmp 11) (by rfl) w2.heap.size L.toArray (by rfl) (by rfl) 64 _ (Arr.new w2 64 L) (by rw [List.size_toArray, HLZ.out]; exact s64) (by rfl) HLo.out ?_))
  go_ret2
  exact ⟨rfl, (K0.trans k2).trans k3⟩
theorem csize_c (g : Nat) (w : World) : Calls Try.prog 40 #[.pointer (some ⟨g, 0, none⟩)] w fun e w' => e = .returned (.int .i64 16) ∧ w' = w := by
  go_enter Try.func40, Try.ntmps40
  go_wp2
  go_ret
  exact ⟨rfl, rfl⟩
theorem cmac_length {f : List UInt8 → List UInt8} (hf : ∀ l, l.length = 16 → (f l).length = 16) (m : List UInt8) : (cmac f m).length = 16 := by
  unfold cmac
  apply hf
  rw [xorl_length]
  unfold lastB
  have hl := nbl_le m
  split
  · rename_i h
    rw [xorl_length, List.length_drop]
    unfold nbl
    rw [if_neg h.1]
    omega
  · rename_i h
    rw [xorl_length]
    apply fill_length
    rw [List.length_drop]
    unfold nbl
    by_cases h0 : m.length = 0
    · rw [if_pos h0]; omega
    · rw [if_neg h0]
      have : m.length % 16 ≠ 0 := fun e => h ⟨h0, e⟩
      omega
set_option maxRecDepth 2000 in
set_option maxHeartbeats 4000000 in
theorem cmacAgrees_c (al : Int) (ka : Option Addr) (kn kc : Nat) (key : List UInt8) (f : List UInt8 → List UInt8) (m : List UInt8) (mv : Value) (cut : Int) (w : World) (hb : bsz16 al = 16) (hE : Enc al (.slice ka kn kc) key f) (hk : Bs w (.slice ka kn kc) key) (hkl : key.length ≠ 0) (hm : Bs w mv m) (hml : m.length ≤ 1000000) (hc : -9223372036854775808 ≤ cut) (hc1 : cut ≤ 9223372036854775807) :
    Calls Try.prog 16 #[.agg #[.int .i64 al, .slice ka kn kc], mv, .int .i64 cut] w fun e w' => e = .returned (.bool true) ∧ Keep w w' := by
  obtain ⟨ma, mc, rfl, hmc, hmm, -⟩ := hm.form
  unfold maxLen at hmm
  have B0 := Arr.new w 36 [.int .i64 al, .slice ka kn kc]
  have K0 := (Keep.refl w).alloc (.cells #[.int .i64 al, .slice ka kn kc] 36)
  have hfl := hE.1
  have HCl := Hid.mk (cmac_length hfl m)
  have HE := Hid.mk hE
  have HB := Hid.mk hb
  have HKL := Hid.mk hkl
  have MC := fun W (h : Keep w W) => mcmac_c al ka kn kc key f m _ W hE (hk.keep h) (hm.keep h) hml
  have SC := fun W (h : Keep w W) => sumCMAC_c al ka kn kc key f m _ W hb hE (hk.keep h) hkl (hm.keep h) hml
  have NC := fun W (h : Keep w W) => newCMAC_c al ka kn kc key f W hb hE (hk.keep h)
  clear hE hb hkl
  have hz := z64
  have hlz := CM_length (al := 0) (kv := .slice none 0 0) (n := 0) Z16_length Z16_length Z16_length Z16_length
  generalize CM 0 (.slice none 0 0) Z16 Z16 Z16 Z16 0 = L at *
  have HZ := Hid.mk hz
  have HLZ := Hid.mk hlz
  obtain ⟨ml, hmlen⟩ : ∃ ml, ml = m.length := ⟨_, rfl⟩
  rw [← hmlen] at hml hmc hm ⊢
  rw [← hmlen] at MC SC
  have HML := Hid.mk hmlen
  have PL := fun W => place_c cut ml W (by omega) (by omega) hc hc1
  obtain ⟨q, hq⟩ : ∃ q : Nat, (q : Int) = cut % ((ml : Int) + 1) := ⟨(cut % ((ml : Int) + 1)).toNat, by have := Int.emod_nonneg cut (show (ml : Int) + 1 ≠ 0 by omega); omega⟩
  have hqm : q ≤ ml := by have := Int.emod_lt_of_pos cut (show (0 : Int) < (ml : Int) + 1 by omega); omega
  rw [← hq] at PL
  clear hz hlz hmlen hq
  go_enter Try.func16, Try.ntmps16
  go_wp2_with fail
  generalize w.alloc (.cells #[.int .i64 al, .slice ka kn kc] 36) = w1 at *
  refine (MC _ K0).mono ?_
  rintro e w2 ⟨v2, rfl, o2, k2⟩
  obtain ⟨va, vc, hv2, -, -, -⟩ := o2.bs.form
  rw [HCl.out] at hv2
  subst hv2
  have b0 := (B0.keep k2).cell 0
  have b1 := (B0.keep k2).cell 1
  simp only [List.getElem?_cons_zero, List.getElem?_cons_succ] at b0 b1
  have K2 := K0.trans k2
  go_wp2_with fail
  refine (SC _ K2).mono ?_
  rintro e w3 ⟨v3, rfl, o3, k3⟩
  have SA := same_c _ _ (cmac f m) (cmac f m) w3 o3.bs (o2.bs.keep k3)
  rw [decide_eq_true (rfl : cmac f m = cmac f m)] at SA
  go_wp2_with fail
  refine SA.mono ?_
  rintro e w4 ⟨rfl, k4⟩
  have d0 := (k3.trans k4).cell b0
  have d1 := (k3.trans k4).cell b1
  have K4 := (K2.trans k3).trans k4
  clear b0 b1 SA
  go_wp2_with fail
  refine (NC _ K4).mono ?_
  rintro e w5 ⟨rfl, k5⟩
  have hCL : ∀ X H n, St f m X H n → f (sumIn (dbl (f Z16)) (dbl (dbl (f Z16))) X H n) = cmac f m := fun X H n h => cmac_law hfl h
  obtain ⟨K1, hK1⟩ : ∃ K1, K1 = dbl (f Z16) := ⟨_, rfl⟩
  obtain ⟨K2', hK2⟩ : ∃ K2', K2' = dbl (dbl (f Z16)) := ⟨_, rfl⟩
  rw [← hK2, ← hK1]
  have hL1 : K1.length = 16 := by rw [hK1]; exact dbl_length _
  have hL2 : K2'.length = 16 := by rw [hK2]; exact dbl_length _
  have HCL : Hid (∀ X H n, St f m X H n → f (sumIn K1 K2' X H n) = cmac f m) := Hid.mk (by intro X H n h; rw [hK1, hK2]; exact hCL X H n h)
  obtain ⟨LC, hLC⟩ : ∃ LC, LC = CM al (.slice ka kn kc) K1 K2' Z16 Z16 0 := ⟨_, rfl⟩
  rw [← hLC]
  have HLC := Hid.mk hLC
  have HLl : Hid (LC.length = 67) := Hid.mk (by rw [hLC]; exact CM_length hL1 hL2 Z16_length Z16_length)
  have HLo : Hid (LC.toArray.all (·.oneCell') = true) := Hid.mk (by rw [hLC]; exact CM_one ..)
  have HL1 := Hid.mk hL1
  have HL2 := Hid.mk hL2
  clear hCL hK1 hK2 hLC hL1 hL2 MC SC NC d0 d1
  have A6 : Arr ((w5.alloc (.cells L.toArray 64)).setRow w5.heap.size LC.toArray) w5.heap.size 64 LC := (Arr.new w5 64 L).row LC
  have k6 : Keep w5 ((w5.alloc (.cells L.toArray 64)).setRow w5.heap.size LC.toArray) := ((Keep.refl w5).alloc _).setRow (Nat.le_refl _) _
  have K5 := K4.trans k5
  have O2 := o2.keep ((k3.trans k4).trans k5)
  go_upto_region 8 with (first
    | (refine wpList_alloc_z (by rfl) 64 (by rfl) L HZ.out ?_)
    | (refine wpList_store_row (by rfl) 64 (.tmp 10) (.tmp 31) (by rfl) w5.heap.size LC.toArray (by rfl) (by rfl) 64 _ (Arr.new w5 64 L) (by rw [List.size_toArray, HLl.out]; exact s64) (by rw [List.size_toArray, List.size_toArray, HLl.out, HLZ.out]) HLo.out ?_))
  generalize (w5.alloc (.cells L.toArray 64)).setRow w5.heap.size LC.toArray = w6 at *
  have hle := K5.size
  have hg6 := A6.lt
  have hw25 := ((k3.trans k4).trans k5).size
  have K6 := K5.trans k6
  have O6 := O2.keep k6
  have nkb : (Value.slice ka kn kc).ownBlock ≠ some w5.heap.size := hk.block HKL.out hle
  have nmb : m.length ≠ 0 → (Value.slice ma ml mc).ownBlock ≠ some w5.heap.size := fun h => hm.block h hle
  have n2b : (Value.slice va 16 vc).ownBlock ≠ some w5.heap.size := by intro e; have := (o2.lt _ e).2; have := ((k3.trans k4).trans k5).size; omega
  rw [HLC.out] at A6
  generalize w5.heap.size = g10 at *
  go_wp2_with fail
  refine (PL _).mono ?_
  rintro e w7 ⟨rfl, k7⟩
  have A7 := A6.keep k7
  have K7 := K6.trans k7
  have y1 : (q : Int) ≤ ml := by omega
  have y2 : (q : Int) ≤ mc := by omega
  have y3 : (0 : Int) ≤ q := by omega
  have hP1 := (hm.keep K7).part (i := 0) (j := q) (by omega) hqm ma (fun _ => by cases ma <;> simp [Addr.add])
  rw [List.drop_zero, Nat.sub_zero, Nat.sub_zero] at hP1
  have nq1 : (m.take q).length ≠ 0 → (Value.slice ma q mc).ownBlock ≠ some g10 := by
    intro h
    have h2 : m.length ≠ 0 := by
      intro e
      apply h
      rw [List.length_take, e]
      simp
    have h3 := nmb h2
    cases ma <;> simpa [Value.ownBlock] using h3
  have W1 := cwrite_c g10 al ka kn kc key f K1 K2' Z16 Z16 [] (m.take q) 0 (.slice ma q mc) w7 HE.out HL1.out HL2.out (St.zero f) A7 (hk.keep K7) nkb hP1 nq1 (by rw [List.length_take, ← HML.out]; omega)
  go_wp2_with fail
  refine W1.mono ?_
  rintro e w8 ⟨rfl, X, H, n, hst, A8, gr8⟩
  rw [List.nil_append] at hst
  have K8 := K7.grown gr8 (fun q hq => by simp at hq; omega)
  have O8 := (O6.keep k7).bs.kept gr8 n2b
  have hm8 := hm.keep K8
  have hk8 := hk.keep K8
  have W2 := fun pv (hb : Bs w8 pv (m.drop q)) hn => cwrite_c g10 al ka kn kc key f K1 K2' X H (m.take q) (m.drop q) n pv w8 HE.out HL1.out HL2.out hst A8 hk8 nkb hb hn (by rw [List.length_drop, ← HML.out]; omega)
  clear W1 hst
  by_cases hpk : mc = q
  · have hmq : ml = q := by omega
    have hd : m.drop q = [] := List.drop_of_length_le (by rw [← HML.out]; omega)
    have W3 := W2 (.slice ma 0 0) (by rw [hd]; exact Bs.nil _ _ (by simp [maxLen])) (by intro h; rw [hd] at h; exact absurd rfl h)
    subst hmq
    subst hpk
    clear hd W2
    · go_wp2_with fail
      refine W3.mono ?_
      rintro e w9 ⟨rfl, X2, H2, n2, hst2, A9, gr9⟩
      rw [List.take_append_drop] at hst2
      have hXl : X2.length = 16 := by obtain ⟨j, hj, -⟩ := hst2; rw [hj.2.2.1]; exact chn_length hfl _ _
      have hHl : H2.length = 16 := by obtain ⟨j, hj, -⟩ := hst2; exact hj.2.2.2.2
      have hn16 : n2 ≤ 16 := by obtain ⟨j, hj, -⟩ := hst2; exact hj.2.1
      have hEq := HCL.out X2 H2 n2 hst2
      have K9 := K8.grown gr9 (fun q hq => by simp at hq; omega)
      have O9 := O8.kept gr9 n2b
      have hs9 := gr9.size
      have hs8 := gr8.size
      have hs7 := k7.size
      have KA := (Keep.refl w9).alloc (.cells #[] 5)
      have OD : Own w9.heap.size 5 (w9.alloc (.cells #[] 5)) (.slice (some ⟨w9.heap.size, 0, none⟩) 0 0) (([] : List UInt8).map cb) := Own.lit [] (Nat.le_refl _) (by simp)
      have SM := csum_c g10 w9.heap.size al ka kn kc key f K1 K2' X2 H2 n2 (.slice (some ⟨w9.heap.size, 0, none⟩) 0 0) (w9.alloc (.cells #[] 5)) HE.out HL1.out HL2.out hXl hHl hn16 (A9.keep KA) (hk.keep (K9.trans KA)) OD (by simp) (by omega)
      rw [hEq] at SM
      clear hst2 hXl hHl hEq
      go_wp2_with fail
      refine SM.mono ?_
      rintro e w10 ⟨v10, rfl, o10, gr10⟩
      have n2c : (Value.slice va 16 vc).ownBlock ≠ some w9.heap.size := by intro e; have := (o2.lt _ e).2; omega
      have O10 := (O9.keep KA).kept (g := w9.heap.size) gr10 n2c
      have SB := same_c _ _ (cmac f m) (cmac f m) w10 o10.bs O10
      rw [decide_eq_true (rfl : cmac f m = cmac f m)] at SB
      have K10 := (K9.trans KA).grown gr10 (fun q hq => by simp [Value.ownBlock] at hq; omega)
      go_wp2_with fail
      refine SB.mono ?_
      rintro e w11 ⟨rfl, k11⟩
      go_wp2_with fail
      refine (csize_c g10 _).mono ?_
      rintro e w12 ⟨rfl, rfl⟩
      go_wp2
      go_ret
      exact ⟨rfl, K10.trans k11⟩
  · have hP2 := hm8.part (i := q) (j := ml) hqm (Nat.le_refl _) (ma.map (·.add q)) (fun _ => rfl)
    rw [List.take_of_length_le (by rw [List.length_drop, ← HML.out]; omega)] at hP2
    have nq2 : (m.drop q).length ≠ 0 → (Value.slice (ma.map (·.add q)) (ml - q) (mc - q)).ownBlock ≠ some g10 := by
      intro h
      have h2 : m.length ≠ 0 := by
        intro e
        apply h
        rw [List.length_drop, e]
        simp
      have h3 := nmb h2
      cases ma with
      | none => simp [Value.ownBlock]
      | some x =>
        simp only [Option.map_some, Value.ownBlock, Addr.add] at h3 ⊢
        split <;> exact h3
    have W3 := W2 _ hP2 nq2
    clear W2 hP2 nq2
    · go_wp2_with fail
      refine W3.mono ?_
      rintro e w9 ⟨rfl, X2, H2, n2, hst2, A9, gr9⟩
      rw [List.take_append_drop] at hst2
      have hXl : X2.length = 16 := by obtain ⟨j, hj, -⟩ := hst2; rw [hj.2.2.1]; exact chn_length hfl _ _
      have hHl : H2.length = 16 := by obtain ⟨j, hj, -⟩ := hst2; exact hj.2.2.2.2
      have hn16 : n2 ≤ 16 := by obtain ⟨j, hj, -⟩ := hst2; exact hj.2.1
      have hEq := HCL.out X2 H2 n2 hst2
      have K9 := K8.grown gr9 (fun q hq => by simp at hq; omega)
      have O9 := O8.kept gr9 n2b
      have hs9 := gr9.size
      have hs8 := gr8.size
      have hs7 := k7.size
      have KA := (Keep.refl w9).alloc (.cells #[] 5)
      have OD : Own w9.heap.size 5 (w9.alloc (.cells #[] 5)) (.slice (some ⟨w9.heap.size, 0, none⟩) 0 0) (([] : List UInt8).map cb) := Own.lit [] (Nat.le_refl _) (by simp)
      have SM := csum_c g10 w9.heap.size al ka kn kc key f K1 K2' X2 H2 n2 (.slice (some ⟨w9.heap.size, 0, none⟩) 0 0) (w9.alloc (.cells #[] 5)) HE.out HL1.out HL2.out hXl hHl hn16 (A9.keep KA) (hk.keep (K9.trans KA)) OD (by simp) (by omega)
      rw [hEq] at SM
      clear hst2 hXl hHl hEq
      go_wp2_with fail
      refine SM.mono ?_
      rintro e w10 ⟨v10, rfl, o10, gr10⟩
      have n2c : (Value.slice va 16 vc).ownBlock ≠ some w9.heap.size := by intro e; have := (o2.lt _ e).2; omega
      have O10 := (O9.keep KA).kept (g := w9.heap.size) gr10 n2c
      have SB := same_c _ _ (cmac f m) (cmac f m) w10 o10.bs O10
      rw [decide_eq_true (rfl : cmac f m = cmac f m)] at SB
      have K10 := (K9.trans KA).grown gr10 (fun q hq => by simp [Value.ownBlock] at hq; omega)
      go_wp2_with fail
      refine SB.mono ?_
      rintro e w11 ⟨rfl, k11⟩
      go_wp2_with fail
      refine (csize_c g10 _).mono ?_
      rintro e w12 ⟨rfl, rfl⟩
      go_wp2
      go_ret
      exact ⟨rfl, K10.trans k11⟩
end Go.Proofs.Qxb6500769a
