/- profilem: Derive. -/
import Derived.Test.Qxb6500771aGreatHa
namespace Go.Proofs.Qxb6500771aGreat
open Go.RowKit Go.Qm
set_option linter.unusedVariables false
set_option linter.unusedSimpArgs false
attribute [local go_sem ↓] Go.wp_at_zero Go.wp_at_succ
def cnst (us : Nat) (x : UInt8) : List UInt8 := dig us 4 ++ [x]
theorem cnst_length (us : Nat) (x : UInt8) : (cnst us x).length = 5 := by simp [cnst, dig_length]
/-- The derived key. -/
def drvF (e : Int) (key : List UInt8) (us : Nat) (x : UInt8) : List UInt8 := if e = 17 then drO (encF 1 key) (cnst us x) 1 else if e = 18 then drO (encF 2 key) (cnst us x) 2 else if e = 19 then kdfC 2 key (cnst us x) [] 16 else if e = 20 then (if x = 170 then kdfC 3 key (cnst us x) [] 32 else kdfC 3 key (cnst us x) [] 24) else if e = 25 then fbO (encF 3 key) (fixF (cnst us x) [] 16) 1 else fbO (encF 4 key) (fixF (cnst us x) [] 32) 2
/-- Its length: that of the key, but for aes256-sha384's checksum keys. -/
theorem drvF_length {e : Int} (h : srv e) (key : List UInt8) (us : Nat) (x : UInt8) (hk : key.length = kl e) : (drvF e key us x).length = if e = 20 ∧ x ≠ 170 then 24 else kl e := by
  rcases h with rfl | rfl | rfl | rfl | rfl | rfl
  · exact drO_length (fun l hl => encF_length (al := 1) (by unfold Alg; omega) key l hk hl) _ 1
  · exact drO_length (fun l hl => encF_length (al := 2) (by unfold Alg; omega) key l hk hl) _ 2
  · exact kdfC_length 2 _ _ _ _ (by omega) (by omega) (by decide)
  · by_cases hx : x = 170
    · rw [if_neg (by simp [hx])]
      show (if x = 170 then kdfC 3 key (cnst us x) [] 32 else kdfC 3 key (cnst us x) [] 24).length = _
      rw [if_pos hx]
      exact kdfC_length 3 _ _ _ _ (by omega) (by omega) (by decide)
    · rw [if_pos ⟨rfl, hx⟩]
      show (if x = 170 then kdfC 3 key (cnst us x) [] 32 else kdfC 3 key (cnst us x) [] 24).length = _
      rw [if_neg hx]
      exact kdfC_length 3 _ _ _ _ (by omega) (by omega) (by decide)
  · exact fbO_length (fun l hl => encF_length (al := 3) (by unfold Alg; omega) key l hk hl) _ 1
  · exact fbO_length (fun l hl => encF_length (al := 4) (by unfold Alg; omega) key l hk hl) _ 2
set_option maxRecDepth 4000 in
set_option maxHeartbeats 4000000 in
theorem derive17_c (ka : Option Addr) (kn kc : Nat) (key : List UInt8) (us : Nat) (x : UInt8) (w : World) (hk : Bs w (.slice ka kn kc) key) (hkl : key.length = kl 17) (hus : us < 4294967296) :
    Calls Tryz.prog 72 #[.agg #[.int .i32 17, .slice ka kn kc], .int .u32 us, .int .u8 x.toNat] w (RB w (drvF 17 key us x)) := by
  obtain ⟨W, hW⟩ : ∃ W, W = w.alloc (.cells #[.int .i32 17, .slice ka kn kc] 43) := ⟨_, rfl⟩
  have kW : Keep w W := by rw [hW]; exact (Keep.refl w).alloc _
  have aW : Arr W w.heap.size 43 [.int .i32 17, .slice ka kn kc] := by rw [hW]; exact Arr.new w 43 _
  obtain ⟨g3, hg3⟩ : ∃ g3, g3 = w.heap.size := ⟨_, rfl⟩
  rw [← hg3] at aW
  have D1 := Hid.mk (digits_c us 4 W (by omega) (by omega))
  have u1 : IntKind.u64.wrap (us : Int) = (us : Int) := wrap_u64' _ (by omega)
  have HK := Hid.mk hk
  have HKL := Hid.mk hkl
  have HAW := Hid.mk aW
  have HKW := Hid.mk kW
  have hsv : srv 17 := by unfold srv; omega
  have HSV := Hid.mk hsv
  clear hk hkl kW aW hsv
  go_enter Tryz.func72, Tryz.ntmps72
  go_upto_region 1 with fail
  rw [← hg3, ← hW]
  clear hg3 hW
  go_wp2_with fail
  refine D1.out.mono ?_
  rintro e w1 ⟨v1, rfl, o1, k1⟩
  obtain ⟨V, hV⟩ : ∃ V, V = w1.alloc (.cells #[.int .u8 x.toNat] 5) := ⟨_, rfl⟩
  have kV : Keep w1 V := by rw [hV]; exact (Keep.refl w1).alloc _
  have b0 : Bs V (.slice (some ⟨w1.heap.size, 0, none⟩) 1 1) [x] := by rw [hV]; exact Sl.one (.int .u8 x.toNat)
  have J1 := Hid.mk (join_c v1 _ (dig us 4) [x] V (o1.bs.keep kV) b0 (by simp [dig_length]))
  have HKV := Hid.mk (k1.trans kV)
  clear o1 k1 kV b0
  go_wp2_with fail
  rw [← hV]
  refine J1.out.mono ?_
  rintro e w2 ⟨v2, rfl, o2, k2⟩
  have HO2 : Hid (Bs w2 v2 (cnst us x)) := Hid.mk o2.bs
  have HK2 := Hid.mk (HKV.out.trans k2)
  have HKA := Hid.mk (HKW.out.trans HK2.out)
  have a0 : w2.cell? ⟨g3, 0, none⟩ = some (.int .i32 17) := (HAW.out.keep HK2.out).cell 0
  have a1 : w2.cell? ⟨g3, 1, none⟩ = some (.slice ka kn kc) := (HAW.out.keep HK2.out).cell 1
  clear o2 k2 hV
  have HALL : Hid (∀ Z, Keep w2 Z → Z.cell? ⟨g3, 0, none⟩ = some (.int .i32 17) ∧ Z.cell? ⟨g3, 1, none⟩ = some (.slice ka kn kc)) := Hid.mk (fun Z kz => ⟨kz.cell a0, kz.cell a1⟩)
  have Q0 : Keep w2 w2.drew := (Keep.refl w2).drew
  have CO : Hid (∀ Z, Calls Tryz.prog 76 #[.int .i32 17] Z fun x w' => x = .returned (.int .i64 1) ∧ w' = Z) := Hid.mk (fun Z => cipherOf_c 17 Z HSV.out)
  have KL : Hid (∀ Z, Calls Tryz.prog 22 #[.int .i32 17] Z fun x w' => x = .returned (.int .i64 16) ∧ w' = Z) := Hid.mk (fun Z => keyLenS_c 17 Z HSV.out)
  go_wp2_with fail
  go_region_held3 (fun Z => Z.cell? ⟨g3, 0, none⟩ = some (.int .i32 17) ∧ Z.cell? ⟨g3, 1, none⟩ = some (.slice ka kn kc))
    ((refine HALL.out _ ?_; first | (with_reducible exact Q3) | (with_reducible exact Q2) | (with_reducible exact Q0) | (with_reducible exact (Keep.refl _))))
    (first
    | (go_at_call 76; refine (CO.out _).mono ?_; rintro e y1 ⟨rfl, hy1⟩; subst hy1)
    | (go_at_call 75; refine (newC_c 1 _ key _ (HK.out.keep (HKA.out.trans Q0)) (by rw [HKL.out]; decide)).mono ?_; rintro e y2 ⟨u2, rfl, o2, q2⟩; have Q2 : Keep w2 y2 := Q0.trans q2; obtain ⟨ua, uc, hu2, -, -, -⟩ := o2.bs.form; subst hu2)
    | (go_at_call 22; refine (KL.out _).mono ?_; rintro e y3 ⟨rfl, hy3⟩; subst hy3)
    | (go_at_call 85; refine (dr_c 1 ua _ uc key (encF 1 key) (enc_c 1 ua _ uc key HKL.out (by unfold Alg; omega)) (by unfold Alg; omega) v2 (cnst us x) 1 _ o2.bs (HO2.out.keep Q2) (cnst_length us x) (by omega) 16 rfl).mono ?_; rintro e y4 ⟨u4, rfl, o4, q4⟩; have Q3 : Keep w2 y4 := Q2.trans q4))
  rename_i hHd
  have HR : Hid (Bs y4 u4 (drvF 17 key us x)) := Hid.mk o4
  have HKR := Hid.mk (HKA.out.trans Q3)
  clear hHd a0 a1 o2 o4 q2 q4 Q0 Q2 Q3
  go_wp2_with fail
  go_ret
  exact ⟨_, rfl, HR.out, HKR.out⟩
set_option maxRecDepth 4000 in
set_option maxHeartbeats 4000000 in
theorem derive18_c (ka : Option Addr) (kn kc : Nat) (key : List UInt8) (us : Nat) (x : UInt8) (w : World) (hk : Bs w (.slice ka kn kc) key) (hkl : key.length = kl 18) (hus : us < 4294967296) :
    Calls Tryz.prog 72 #[.agg #[.int .i32 18, .slice ka kn kc], .int .u32 us, .int .u8 x.toNat] w (RB w (drvF 18 key us x)) := by
  obtain ⟨W, hW⟩ : ∃ W, W = w.alloc (.cells #[.int .i32 18, .slice ka kn kc] 43) := ⟨_, rfl⟩
  have kW : Keep w W := by rw [hW]; exact (Keep.refl w).alloc _
  have aW : Arr W w.heap.size 43 [.int .i32 18, .slice ka kn kc] := by rw [hW]; exact Arr.new w 43 _
  obtain ⟨g3, hg3⟩ : ∃ g3, g3 = w.heap.size := ⟨_, rfl⟩
  rw [← hg3] at aW
  have D1 := Hid.mk (digits_c us 4 W (by omega) (by omega))
  have u1 : IntKind.u64.wrap (us : Int) = (us : Int) := wrap_u64' _ (by omega)
  have HK := Hid.mk hk
  have HKL := Hid.mk hkl
  have HAW := Hid.mk aW
  have HKW := Hid.mk kW
  have hsv : srv 18 := by unfold srv; omega
  have HSV := Hid.mk hsv
  clear hk hkl kW aW hsv
  go_enter Tryz.func72, Tryz.ntmps72
  go_upto_region 1 with fail
  rw [← hg3, ← hW]
  clear hg3 hW
  go_wp2_with fail
  refine D1.out.mono ?_
  rintro e w1 ⟨v1, rfl, o1, k1⟩
  obtain ⟨V, hV⟩ : ∃ V, V = w1.alloc (.cells #[.int .u8 x.toNat] 5) := ⟨_, rfl⟩
  have kV : Keep w1 V := by rw [hV]; exact (Keep.refl w1).alloc _
  have b0 : Bs V (.slice (some ⟨w1.heap.size, 0, none⟩) 1 1) [x] := by rw [hV]; exact Sl.one (.int .u8 x.toNat)
  have J1 := Hid.mk (join_c v1 _ (dig us 4) [x] V (o1.bs.keep kV) b0 (by simp [dig_length]))
  have HKV := Hid.mk (k1.trans kV)
  clear o1 k1 kV b0
  go_wp2_with fail
  rw [← hV]
  refine J1.out.mono ?_
  rintro e w2 ⟨v2, rfl, o2, k2⟩
  have HO2 : Hid (Bs w2 v2 (cnst us x)) := Hid.mk o2.bs
  have HK2 := Hid.mk (HKV.out.trans k2)
  have HKA := Hid.mk (HKW.out.trans HK2.out)
  have a0 : w2.cell? ⟨g3, 0, none⟩ = some (.int .i32 18) := (HAW.out.keep HK2.out).cell 0
  have a1 : w2.cell? ⟨g3, 1, none⟩ = some (.slice ka kn kc) := (HAW.out.keep HK2.out).cell 1
  clear o2 k2 hV
  have HALL : Hid (∀ Z, Keep w2 Z → Z.cell? ⟨g3, 0, none⟩ = some (.int .i32 18) ∧ Z.cell? ⟨g3, 1, none⟩ = some (.slice ka kn kc)) := Hid.mk (fun Z kz => ⟨kz.cell a0, kz.cell a1⟩)
  have Q0 : Keep w2 w2.drew := (Keep.refl w2).drew
  have CO : Hid (∀ Z, Calls Tryz.prog 76 #[.int .i32 18] Z fun x w' => x = .returned (.int .i64 2) ∧ w' = Z) := Hid.mk (fun Z => cipherOf_c 18 Z HSV.out)
  have KL : Hid (∀ Z, Calls Tryz.prog 22 #[.int .i32 18] Z fun x w' => x = .returned (.int .i64 32) ∧ w' = Z) := Hid.mk (fun Z => keyLenS_c 18 Z HSV.out)
  go_wp2_with fail
  go_region_held3 (fun Z => Z.cell? ⟨g3, 0, none⟩ = some (.int .i32 18) ∧ Z.cell? ⟨g3, 1, none⟩ = some (.slice ka kn kc))
    ((refine HALL.out _ ?_; first | (with_reducible exact Q3) | (with_reducible exact Q2) | (with_reducible exact Q0) | (with_reducible exact (Keep.refl _))))
    (first
    | (go_at_call 76; refine (CO.out _).mono ?_; rintro e y1 ⟨rfl, hy1⟩; subst hy1)
    | (go_at_call 75; refine (newC_c 2 _ key _ (HK.out.keep (HKA.out.trans Q0)) (by rw [HKL.out]; decide)).mono ?_; rintro e y2 ⟨u2, rfl, o2, q2⟩; have Q2 : Keep w2 y2 := Q0.trans q2; obtain ⟨ua, uc, hu2, -, -, -⟩ := o2.bs.form; subst hu2)
    | (go_at_call 22; refine (KL.out _).mono ?_; rintro e y3 ⟨rfl, hy3⟩; subst hy3)
    | (go_at_call 85; refine (dr_c 2 ua _ uc key (encF 2 key) (enc_c 2 ua _ uc key HKL.out (by unfold Alg; omega)) (by unfold Alg; omega) v2 (cnst us x) 2 _ o2.bs (HO2.out.keep Q2) (cnst_length us x) (by omega) 32 rfl).mono ?_; rintro e y4 ⟨u4, rfl, o4, q4⟩; have Q3 : Keep w2 y4 := Q2.trans q4))
  rename_i hHd
  have HR : Hid (Bs y4 u4 (drvF 18 key us x)) := Hid.mk o4
  have HKR := Hid.mk (HKA.out.trans Q3)
  clear hHd a0 a1 o2 o4 q2 q4 Q0 Q2 Q3
  go_wp2_with fail
  go_ret
  exact ⟨_, rfl, HR.out, HKR.out⟩
set_option maxRecDepth 4000 in
set_option maxHeartbeats 4000000 in
theorem derive19_c (ka : Option Addr) (kn kc : Nat) (key : List UInt8) (us : Nat) (x : UInt8) (w : World) (hk : Bs w (.slice ka kn kc) key) (hkl : key.length = kl 19) (hus : us < 4294967296) :
    Calls Tryz.prog 72 #[.agg #[.int .i32 19, .slice ka kn kc], .int .u32 us, .int .u8 x.toNat] w (RB w (drvF 19 key us x)) := by
  obtain ⟨W, hW⟩ : ∃ W, W = w.alloc (.cells #[.int .i32 19, .slice ka kn kc] 43) := ⟨_, rfl⟩
  have kW : Keep w W := by rw [hW]; exact (Keep.refl w).alloc _
  have aW : Arr W w.heap.size 43 [.int .i32 19, .slice ka kn kc] := by rw [hW]; exact Arr.new w 43 _
  obtain ⟨g3, hg3⟩ : ∃ g3, g3 = w.heap.size := ⟨_, rfl⟩
  rw [← hg3] at aW
  have D1 := Hid.mk (digits_c us 4 W (by omega) (by omega))
  have u1 : IntKind.u64.wrap (us : Int) = (us : Int) := wrap_u64' _ (by omega)
  have HK := Hid.mk hk
  have HKL := Hid.mk hkl
  have HAW := Hid.mk aW
  have HKW := Hid.mk kW
  have hsv : srv 19 := by unfold srv; omega
  have HSV := Hid.mk hsv
  clear hk hkl kW aW hsv
  go_enter Tryz.func72, Tryz.ntmps72
  go_upto_region 1 with fail
  rw [← hg3, ← hW]
  clear hg3 hW
  go_wp2_with fail
  refine D1.out.mono ?_
  rintro e w1 ⟨v1, rfl, o1, k1⟩
  obtain ⟨V, hV⟩ : ∃ V, V = w1.alloc (.cells #[.int .u8 x.toNat] 5) := ⟨_, rfl⟩
  have kV : Keep w1 V := by rw [hV]; exact (Keep.refl w1).alloc _
  have b0 : Bs V (.slice (some ⟨w1.heap.size, 0, none⟩) 1 1) [x] := by rw [hV]; exact Sl.one (.int .u8 x.toNat)
  have J1 := Hid.mk (join_c v1 _ (dig us 4) [x] V (o1.bs.keep kV) b0 (by simp [dig_length]))
  have HKV := Hid.mk (k1.trans kV)
  clear o1 k1 kV b0
  go_wp2_with fail
  rw [← hV]
  refine J1.out.mono ?_
  rintro e w2 ⟨v2, rfl, o2, k2⟩
  have HO2 : Hid (Bs w2 v2 (cnst us x)) := Hid.mk o2.bs
  have HK2 := Hid.mk (HKV.out.trans k2)
  have HKA := Hid.mk (HKW.out.trans HK2.out)
  have a0 : w2.cell? ⟨g3, 0, none⟩ = some (.int .i32 19) := (HAW.out.keep HK2.out).cell 0
  have a1 : w2.cell? ⟨g3, 1, none⟩ = some (.slice ka kn kc) := (HAW.out.keep HK2.out).cell 1
  clear o2 k2 hV
  have HDF : Hid (drvF 19 key us x = kdfC 2 key (cnst us x) [] 16) := Hid.mk rfl
  obtain ⟨U, hU⟩ : ∃ U, U = w2.alloc (.cells #[] 5) := ⟨_, rfl⟩
  have kU : Keep w2 U := by rw [hU]; exact (Keep.refl w2).alloc _
  have KC := Hid.mk (kdfCounter_c 2 _ v2 (.slice (some ⟨w2.heap.size, 0, none⟩) 0 0) key (cnst us x) [] 16 U (HK.out.keep (HKA.out.trans kU)) (HO2.out.keep kU) (Bs.nil _ 0 (by simp [maxLen])) (by omega) (by omega) (by rw [HKL.out]; decide) (by rw [cnst_length]; omega) (by simp) (by omega) (by decide))
  have HKU := Hid.mk (HKA.out.trans kU)
  clear kU
  go_wp2_with fail
  rw [← hU]
  refine KC.out.mono ?_
  rintro e w3 ⟨v3, rfl, b3, k3⟩
  have HR : Hid (Bs w3 v3 (drvF 19 key us x)) := Hid.mk (by rw [HDF.out]; exact b3)
  have HKR := Hid.mk (HKU.out.trans k3)
  clear b3 k3 hU a0 a1
  go_wp2_with fail
  go_ret
  exact ⟨_, rfl, HR.out, HKR.out⟩
set_option maxRecDepth 4000 in
set_option maxHeartbeats 4000000 in
theorem derive20_c (ka : Option Addr) (kn kc : Nat) (key : List UInt8) (us : Nat) (x : UInt8) (w : World) (hk : Bs w (.slice ka kn kc) key) (hkl : key.length = kl 20) (hus : us < 4294967296) :
    Calls Tryz.prog 72 #[.agg #[.int .i32 20, .slice ka kn kc], .int .u32 us, .int .u8 x.toNat] w (RB w (drvF 20 key us x)) := by
  obtain ⟨W, hW⟩ : ∃ W, W = w.alloc (.cells #[.int .i32 20, .slice ka kn kc] 43) := ⟨_, rfl⟩
  have kW : Keep w W := by rw [hW]; exact (Keep.refl w).alloc _
  have aW : Arr W w.heap.size 43 [.int .i32 20, .slice ka kn kc] := by rw [hW]; exact Arr.new w 43 _
  obtain ⟨g3, hg3⟩ : ∃ g3, g3 = w.heap.size := ⟨_, rfl⟩
  rw [← hg3] at aW
  have D1 := Hid.mk (digits_c us 4 W (by omega) (by omega))
  have u1 : IntKind.u64.wrap (us : Int) = (us : Int) := wrap_u64' _ (by omega)
  have HK := Hid.mk hk
  have HKL := Hid.mk hkl
  have HAW := Hid.mk aW
  have HKW := Hid.mk kW
  have hsv : srv 20 := by unfold srv; omega
  have HSV := Hid.mk hsv
  clear hk hkl kW aW hsv
  go_enter Tryz.func72, Tryz.ntmps72
  go_upto_region 1 with fail
  rw [← hg3, ← hW]
  clear hg3 hW
  go_wp2_with fail
  refine D1.out.mono ?_
  rintro e w1 ⟨v1, rfl, o1, k1⟩
  obtain ⟨V, hV⟩ : ∃ V, V = w1.alloc (.cells #[.int .u8 x.toNat] 5) := ⟨_, rfl⟩
  have kV : Keep w1 V := by rw [hV]; exact (Keep.refl w1).alloc _
  have b0 : Bs V (.slice (some ⟨w1.heap.size, 0, none⟩) 1 1) [x] := by rw [hV]; exact Sl.one (.int .u8 x.toNat)
  have J1 := Hid.mk (join_c v1 _ (dig us 4) [x] V (o1.bs.keep kV) b0 (by simp [dig_length]))
  have HKV := Hid.mk (k1.trans kV)
  clear o1 k1 kV b0
  go_wp2_with fail
  rw [← hV]
  refine J1.out.mono ?_
  rintro e w2 ⟨v2, rfl, o2, k2⟩
  have HO2 : Hid (Bs w2 v2 (cnst us x)) := Hid.mk o2.bs
  have HK2 := Hid.mk (HKV.out.trans k2)
  have HKA := Hid.mk (HKW.out.trans HK2.out)
  have a0 : w2.cell? ⟨g3, 0, none⟩ = some (.int .i32 20) := (HAW.out.keep HK2.out).cell 0
  have a1 : w2.cell? ⟨g3, 1, none⟩ = some (.slice ka kn kc) := (HAW.out.keep HK2.out).cell 1
  clear o2 k2 hV
  by_cases hx : x = 170
  · subst hx
    have HDF : Hid (drvF 20 key us 170 = kdfC 3 key (cnst us 170) [] 32) := Hid.mk rfl
    have y1 : (((170 : UInt8).toNat : Int) == 170) = true := rfl
    obtain ⟨U, hU⟩ : ∃ U, U = w2.alloc (.cells #[] 5) := ⟨_, rfl⟩
    have kU : Keep w2 U := by rw [hU]; exact (Keep.refl w2).alloc _
    have KC := Hid.mk (kdfCounter_c 3 _ v2 (.slice (some ⟨w2.heap.size, 0, none⟩) 0 0) key (cnst us 170) [] 32 U (HK.out.keep (HKA.out.trans kU)) (HO2.out.keep kU) (Bs.nil _ 0 (by simp [maxLen])) (by omega) (by omega) (by rw [HKL.out]; decide) (by rw [cnst_length]; omega) (by simp) (by omega) (by decide))
    have HKU := Hid.mk (HKA.out.trans kU)
    clear kU
    go_wp2_with fail
    rw [← hU]
    refine KC.out.mono ?_
    rintro e w3 ⟨v3, rfl, b3, k3⟩
    have HR : Hid (Bs w3 v3 (drvF 20 key us 170)) := Hid.mk (by rw [HDF.out]; exact b3)
    have HKR := Hid.mk (HKU.out.trans k3)
    clear b3 k3 hU a0 a1
    go_wp2_with fail
    go_ret
    exact ⟨_, rfl, HR.out, HKR.out⟩
  · have y1 : ((x.toNat : Int) == 170) = false := by
      have : x.toNat ≠ 170 := fun h => hx (UInt8.toNat_inj.1 h)
      simp; omega
    have HDF : Hid (drvF 20 key us x = kdfC 3 key (cnst us x) [] 24) := Hid.mk (by show (if x = 170 then _ else _) = _; rw [if_neg hx])
    clear hx
    obtain ⟨U, hU⟩ : ∃ U, U = w2.alloc (.cells #[] 5) := ⟨_, rfl⟩
    have kU : Keep w2 U := by rw [hU]; exact (Keep.refl w2).alloc _
    have KC := Hid.mk (kdfCounter_c 3 _ v2 (.slice (some ⟨w2.heap.size, 0, none⟩) 0 0) key (cnst us x) [] 24 U (HK.out.keep (HKA.out.trans kU)) (HO2.out.keep kU) (Bs.nil _ 0 (by simp [maxLen])) (by omega) (by omega) (by rw [HKL.out]; decide) (by rw [cnst_length]; omega) (by simp) (by omega) (by decide))
    have HKU := Hid.mk (HKA.out.trans kU)
    clear kU
    go_wp2_with fail
    rw [← hU]
    refine KC.out.mono ?_
    rintro e w3 ⟨v3, rfl, b3, k3⟩
    have HR : Hid (Bs w3 v3 (drvF 20 key us x)) := Hid.mk (by rw [HDF.out]; exact b3)
    have HKR := Hid.mk (HKU.out.trans k3)
    clear b3 k3 hU a0 a1
    go_wp2_with fail
    go_ret
    exact ⟨_, rfl, HR.out, HKR.out⟩
set_option maxRecDepth 4000 in
set_option maxHeartbeats 4000000 in
theorem derive25_c (ka : Option Addr) (kn kc : Nat) (key : List UInt8) (us : Nat) (x : UInt8) (w : World) (hk : Bs w (.slice ka kn kc) key) (hkl : key.length = kl 25) (hus : us < 4294967296) :
    Calls Tryz.prog 72 #[.agg #[.int .i32 25, .slice ka kn kc], .int .u32 us, .int .u8 x.toNat] w (RB w (drvF 25 key us x)) := by
  obtain ⟨W, hW⟩ : ∃ W, W = w.alloc (.cells #[.int .i32 25, .slice ka kn kc] 43) := ⟨_, rfl⟩
  have kW : Keep w W := by rw [hW]; exact (Keep.refl w).alloc _
  have aW : Arr W w.heap.size 43 [.int .i32 25, .slice ka kn kc] := by rw [hW]; exact Arr.new w 43 _
  obtain ⟨g3, hg3⟩ : ∃ g3, g3 = w.heap.size := ⟨_, rfl⟩
  rw [← hg3] at aW
  have D1 := Hid.mk (digits_c us 4 W (by omega) (by omega))
  have u1 : IntKind.u64.wrap (us : Int) = (us : Int) := wrap_u64' _ (by omega)
  have HK := Hid.mk hk
  have HKL := Hid.mk hkl
  have HAW := Hid.mk aW
  have HKW := Hid.mk kW
  have hsv : srv 25 := by unfold srv; omega
  have HSV := Hid.mk hsv
  clear hk hkl kW aW hsv
  go_enter Tryz.func72, Tryz.ntmps72
  go_upto_region 1 with fail
  rw [← hg3, ← hW]
  clear hg3 hW
  go_wp2_with fail
  refine D1.out.mono ?_
  rintro e w1 ⟨v1, rfl, o1, k1⟩
  obtain ⟨V, hV⟩ : ∃ V, V = w1.alloc (.cells #[.int .u8 x.toNat] 5) := ⟨_, rfl⟩
  have kV : Keep w1 V := by rw [hV]; exact (Keep.refl w1).alloc _
  have b0 : Bs V (.slice (some ⟨w1.heap.size, 0, none⟩) 1 1) [x] := by rw [hV]; exact Sl.one (.int .u8 x.toNat)
  have J1 := Hid.mk (join_c v1 _ (dig us 4) [x] V (o1.bs.keep kV) b0 (by simp [dig_length]))
  have HKV := Hid.mk (k1.trans kV)
  clear o1 k1 kV b0
  go_wp2_with fail
  rw [← hV]
  refine J1.out.mono ?_
  rintro e w2 ⟨v2, rfl, o2, k2⟩
  have HO2 : Hid (Bs w2 v2 (cnst us x)) := Hid.mk o2.bs
  have HK2 := Hid.mk (HKV.out.trans k2)
  have HKA := Hid.mk (HKW.out.trans HK2.out)
  have a0 : w2.cell? ⟨g3, 0, none⟩ = some (.int .i32 25) := (HAW.out.keep HK2.out).cell 0
  have a1 : w2.cell? ⟨g3, 1, none⟩ = some (.slice ka kn kc) := (HAW.out.keep HK2.out).cell 1
  clear o2 k2 hV
  have HALL : Hid (∀ Z, Keep w2 Z → Z.cell? ⟨g3, 0, none⟩ = some (.int .i32 25) ∧ Z.cell? ⟨g3, 1, none⟩ = some (.slice ka kn kc)) := Hid.mk (fun Z kz => ⟨kz.cell a0, kz.cell a1⟩)
  have Q0 : Keep w2 w2.drew := (Keep.refl w2).drew
  have QA : Keep w2 (w2.alloc (.cells #[] 5)).drew := ((Keep.refl w2).alloc _).drew
  have CO : Hid (∀ Z, Calls Tryz.prog 76 #[.int .i32 25] Z fun x w' => x = .returned (.int .i64 3) ∧ w' = Z) := Hid.mk (fun Z => cipherOf_c 25 Z HSV.out)
  have KL : Hid (∀ Z, Calls Tryz.prog 22 #[.int .i32 25] Z fun x w' => x = .returned (.int .i64 16) ∧ w' = Z) := Hid.mk (fun Z => keyLenS_c 25 Z HSV.out)
  go_wp2_with fail
  go_region_held3 (fun Z => Z.cell? ⟨g3, 0, none⟩ = some (.int .i32 25) ∧ Z.cell? ⟨g3, 1, none⟩ = some (.slice ka kn kc))
    ((refine HALL.out _ ?_; first | (with_reducible exact Q3) | (with_reducible exact Q2) | (with_reducible exact Q0) | (with_reducible exact (Keep.refl _)) | (with_reducible exact QA) | (with_reducible exact Q2.alloc _) | (with_reducible exact Q0.alloc _)))
    (first
    | (go_at_call 76; refine (CO.out _).mono ?_; rintro e y1 ⟨rfl, hy1⟩; subst hy1)
    | (go_at_call 75; refine (newC_c 3 _ key _ (HK.out.keep (HKA.out.trans (by first | (with_reducible exact Q0) | (with_reducible exact QA) | exact Q0.alloc _))) (by rw [HKL.out]; decide)).mono ?_; rintro e y2 ⟨u2, rfl, o2, q2⟩; have Q2 : Keep w2 y2 := (by first | (with_reducible exact Q0.trans q2) | (with_reducible exact QA.trans q2) | exact (Q0.alloc _).trans q2); obtain ⟨ua, uc, hu2, -, -, -⟩ := o2.bs.form; subst hu2)
    | (go_at_call 22; refine (KL.out _).mono ?_; rintro e y3 ⟨rfl, hy3⟩; subst hy3)
    | (go_at_call 87; first
        | (refine (kdfFeedback_c 3 ua _ uc key (encF 3 key) (enc_c 3 ua _ uc key HKL.out (by unfold Alg; omega)) v2 _ (cnst us x) [] 1 _ o2.bs (HO2.out.keep Q2) (Bs.nil _ 0 (by simp [maxLen])) (by rw [cnst_length]; omega) (by simp) (by omega) 16 rfl).mono ?_; rintro e y4 ⟨u4, rfl, o4, q4⟩; have Q3 : Keep w2 y4 := Q2.trans q4)
        | (refine (kdfFeedback_c 3 ua _ uc key (encF 3 key) (enc_c 3 ua _ uc key HKL.out (by unfold Alg; omega)) v2 _ (cnst us x) [] 1 _ (o2.bs.keep ((Keep.refl _).alloc _)) (HO2.out.keep (Q2.alloc _)) (Bs.nil _ 0 (by simp [maxLen])) (by rw [cnst_length]; omega) (by simp) (by omega) 16 rfl).mono ?_; rintro e y4 ⟨u4, rfl, o4, q4⟩; have Q3 : Keep w2 y4 := (Q2.alloc _).trans q4)))
  all_goals
    rename_i hHd
    have HR : Hid (Bs y4 u4 (drvF 25 key us x)) := Hid.mk o4
    have HKR := Hid.mk (HKA.out.trans Q3)
    clear hHd a0 a1 o2 o4 q2 q4 Q0 QA Q2 Q3
    go_wp2_with fail
    go_ret
    exact ⟨_, rfl, HR.out, HKR.out⟩
set_option maxRecDepth 4000 in
set_option maxHeartbeats 4000000 in
theorem derive26_c (ka : Option Addr) (kn kc : Nat) (key : List UInt8) (us : Nat) (x : UInt8) (w : World) (hk : Bs w (.slice ka kn kc) key) (hkl : key.length = kl 26) (hus : us < 4294967296) :
    Calls Tryz.prog 72 #[.agg #[.int .i32 26, .slice ka kn kc], .int .u32 us, .int .u8 x.toNat] w (RB w (drvF 26 key us x)) := by
  obtain ⟨W, hW⟩ : ∃ W, W = w.alloc (.cells #[.int .i32 26, .slice ka kn kc] 43) := ⟨_, rfl⟩
  have kW : Keep w W := by rw [hW]; exact (Keep.refl w).alloc _
  have aW : Arr W w.heap.size 43 [.int .i32 26, .slice ka kn kc] := by rw [hW]; exact Arr.new w 43 _
  obtain ⟨g3, hg3⟩ : ∃ g3, g3 = w.heap.size := ⟨_, rfl⟩
  rw [← hg3] at aW
  have D1 := Hid.mk (digits_c us 4 W (by omega) (by omega))
  have u1 : IntKind.u64.wrap (us : Int) = (us : Int) := wrap_u64' _ (by omega)
  have HK := Hid.mk hk
  have HKL := Hid.mk hkl
  have HAW := Hid.mk aW
  have HKW := Hid.mk kW
  have hsv : srv 26 := by unfold srv; omega
  have HSV := Hid.mk hsv
  clear hk hkl kW aW hsv
  go_enter Tryz.func72, Tryz.ntmps72
  go_upto_region 1 with fail
  rw [← hg3, ← hW]
  clear hg3 hW
  go_wp2_with fail
  refine D1.out.mono ?_
  rintro e w1 ⟨v1, rfl, o1, k1⟩
  obtain ⟨V, hV⟩ : ∃ V, V = w1.alloc (.cells #[.int .u8 x.toNat] 5) := ⟨_, rfl⟩
  have kV : Keep w1 V := by rw [hV]; exact (Keep.refl w1).alloc _
  have b0 : Bs V (.slice (some ⟨w1.heap.size, 0, none⟩) 1 1) [x] := by rw [hV]; exact Sl.one (.int .u8 x.toNat)
  have J1 := Hid.mk (join_c v1 _ (dig us 4) [x] V (o1.bs.keep kV) b0 (by simp [dig_length]))
  have HKV := Hid.mk (k1.trans kV)
  clear o1 k1 kV b0
  go_wp2_with fail
  rw [← hV]
  refine J1.out.mono ?_
  rintro e w2 ⟨v2, rfl, o2, k2⟩
  have HO2 : Hid (Bs w2 v2 (cnst us x)) := Hid.mk o2.bs
  have HK2 := Hid.mk (HKV.out.trans k2)
  have HKA := Hid.mk (HKW.out.trans HK2.out)
  have a0 : w2.cell? ⟨g3, 0, none⟩ = some (.int .i32 26) := (HAW.out.keep HK2.out).cell 0
  have a1 : w2.cell? ⟨g3, 1, none⟩ = some (.slice ka kn kc) := (HAW.out.keep HK2.out).cell 1
  clear o2 k2 hV
  have HALL : Hid (∀ Z, Keep w2 Z → Z.cell? ⟨g3, 0, none⟩ = some (.int .i32 26) ∧ Z.cell? ⟨g3, 1, none⟩ = some (.slice ka kn kc)) := Hid.mk (fun Z kz => ⟨kz.cell a0, kz.cell a1⟩)
  have Q0 : Keep w2 w2.drew := (Keep.refl w2).drew
  have QA : Keep w2 (w2.alloc (.cells #[] 5)).drew := ((Keep.refl w2).alloc _).drew
  have CO : Hid (∀ Z, Calls Tryz.prog 76 #[.int .i32 26] Z fun x w' => x = .returned (.int .i64 4) ∧ w' = Z) := Hid.mk (fun Z => cipherOf_c 26 Z HSV.out)
  have KL : Hid (∀ Z, Calls Tryz.prog 22 #[.int .i32 26] Z fun x w' => x = .returned (.int .i64 32) ∧ w' = Z) := Hid.mk (fun Z => keyLenS_c 26 Z HSV.out)
  go_wp2_with fail
  go_region_held3 (fun Z => Z.cell? ⟨g3, 0, none⟩ = some (.int .i32 26) ∧ Z.cell? ⟨g3, 1, none⟩ = some (.slice ka kn kc))
    ((refine HALL.out _ ?_; first | (with_reducible exact Q3) | (with_reducible exact Q2) | (with_reducible exact Q0) | (with_reducible exact (Keep.refl _)) | (with_reducible exact QA) | (with_reducible exact Q2.alloc _) | (with_reducible exact Q0.alloc _)))
    (first
    | (go_at_call 76; refine (CO.out _).mono ?_; rintro e y1 ⟨rfl, hy1⟩; subst hy1)
    | (go_at_call 75; refine (newC_c 4 _ key _ (HK.out.keep (HKA.out.trans (by first | (with_reducible exact Q0) | (with_reducible exact QA) | exact Q0.alloc _))) (by rw [HKL.out]; decide)).mono ?_; rintro e y2 ⟨u2, rfl, o2, q2⟩; have Q2 : Keep w2 y2 := (by first | (with_reducible exact Q0.trans q2) | (with_reducible exact QA.trans q2) | exact (Q0.alloc _).trans q2); obtain ⟨ua, uc, hu2, -, -, -⟩ := o2.bs.form; subst hu2)
    | (go_at_call 22; refine (KL.out _).mono ?_; rintro e y3 ⟨rfl, hy3⟩; subst hy3)
    | (go_at_call 87; first
        | (refine (kdfFeedback_c 4 ua _ uc key (encF 4 key) (enc_c 4 ua _ uc key HKL.out (by unfold Alg; omega)) v2 _ (cnst us x) [] 2 _ o2.bs (HO2.out.keep Q2) (Bs.nil _ 0 (by simp [maxLen])) (by rw [cnst_length]; omega) (by simp) (by omega) 32 rfl).mono ?_; rintro e y4 ⟨u4, rfl, o4, q4⟩; have Q3 : Keep w2 y4 := Q2.trans q4)
        | (refine (kdfFeedback_c 4 ua _ uc key (encF 4 key) (enc_c 4 ua _ uc key HKL.out (by unfold Alg; omega)) v2 _ (cnst us x) [] 2 _ (o2.bs.keep ((Keep.refl _).alloc _)) (HO2.out.keep (Q2.alloc _)) (Bs.nil _ 0 (by simp [maxLen])) (by rw [cnst_length]; omega) (by simp) (by omega) 32 rfl).mono ?_; rintro e y4 ⟨u4, rfl, o4, q4⟩; have Q3 : Keep w2 y4 := (Q2.alloc _).trans q4)))
  all_goals
    rename_i hHd
    have HR : Hid (Bs y4 u4 (drvF 26 key us x)) := Hid.mk o4
    have HKR := Hid.mk (HKA.out.trans Q3)
    clear hHd a0 a1 o2 o4 q2 q4 Q0 QA Q2 Q3
    go_wp2_with fail
    go_ret
    exact ⟨_, rfl, HR.out, HKR.out⟩
theorem derive_c {e : Int} (h : srv e) (ka : Option Addr) (kn kc : Nat) (key : List UInt8) (us : Nat) (x : UInt8) (w : World) (hk : Bs w (.slice ka kn kc) key) (hkl : key.length = kl e) (hus : us < 4294967296) :
    Calls Tryz.prog 72 #[.agg #[.int .i32 e, .slice ka kn kc], .int .u32 us, .int .u8 x.toNat] w (RB w (drvF e key us x)) := by
  rcases h with rfl | rfl | rfl | rfl | rfl | rfl
  · exact derive17_c ka kn kc key us x w hk hkl hus
  · exact derive18_c ka kn kc key us x w hk hkl hus
  · exact derive19_c ka kn kc key us x w hk hkl hus
  · exact derive20_c ka kn kc key us x w hk hkl hus
  · exact derive25_c ka kn kc key us x w hk hkl hus
  · exact derive26_c ka kn kc key us x w hk hkl hus
end Go.Proofs.Qxb6500771aGreat
