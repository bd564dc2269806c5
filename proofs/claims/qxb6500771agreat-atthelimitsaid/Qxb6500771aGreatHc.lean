/- profilem: GetMIC, Encrypt. -/
import Derived.Test.Qxb6500771aGreatHb
import Derived.Test.Qxb6500771aGreatGd
import Derived.Test.Qxb6500771aGreatQc
import Derived.Deep.MidRow
namespace Go.Proofs.Qxb6500771aGreat
open Go.RowKit Go.Qm
set_option linter.unusedVariables false
set_option linter.unusedSimpArgs false
attribute [local go_sem ↓] Go.wp_at_zero Go.wp_at_succ
theorem own_ne_arr {B : Nat} {w : World} {v : Value} {xs : List Value} (h : Own B 5 w v xs) {p : Nat} {t : TypeId} {cs : List Value} (ha : Arr w p t cs) (ht : t ≠ 5) : v.ownBlock ≠ some p := by
  intro hq
  rcases h.form with ⟨rfl, -⟩ | ⟨g, cap, sp, rfl, -, hg, -⟩
  · simp [Value.ownBlock] at hq
  · simp [Value.ownBlock] at hq
    subst hq
    have h1 : some _ = some _ := hg.symm.trans ha
    injection h1 with h1
    injection h1 with h2 h3
    exact ht h3.symm
theorem drv_key {e : Int} (h : srv e) (key : List UInt8) (us : Nat) (x : UInt8) (hk : key.length = kl e) : (drvF e key us x).length ≤ 1000 ∧ (e = 25 ∨ e = 26 → (drvF e key us x).length = kl e) ∧ (x = 170 → (drvF e key us x).length = kl e) := by
  have h1 := drvF_length h key us x hk
  have h2 := kl_le e
  refine ⟨by rw [h1]; split <;> omega, fun he => by rw [h1, if_neg (by omega)], fun hx => by rw [h1, if_neg (fun a => a.2 hx)]⟩
set_option maxRecDepth 4000 in
set_option maxHeartbeats 4000000 in
theorem getMIC_c {e : Int} (h : srv e) (ka : Option Addr) (kn kc : Nat) (key : List UInt8) (us : Nat) (mv : Value) (msg : List UInt8) (w : World) (hk : Bs w (.slice ka kn kc) key) (hkl : key.length = kl e) (hus : us < 4294967296) (hm : Bs w mv msg) (hml : msg.length ≤ 1900000) :
    Calls Tryz.prog 63 #[.agg #[.int .i32 e, .slice ka kn kc], .int .u32 us, mv] w (RB w (mcF e (drvF e key us 153) msg)) := by
  obtain ⟨W, hW⟩ : ∃ W, W = w.alloc (.cells #[.int .i32 e, .slice ka kn kc] 43) := ⟨_, rfl⟩
  have kW : Keep w W := by rw [hW]; exact (Keep.refl w).alloc _
  have aW : Arr W w.heap.size 43 [.int .i32 e, .slice ka kn kc] := by rw [hW]; exact Arr.new w 43 _
  obtain ⟨g3, hg3⟩ : ∃ g3, g3 = w.heap.size := ⟨_, rfl⟩
  rw [← hg3] at aW
  have a0 : W.cell? ⟨g3, 0, none⟩ = some (.int .i32 e) := aW.cell 0
  have a1 : W.cell? ⟨g3, 1, none⟩ = some (.slice ka kn kc) := aW.cell 1
  have HALL : Hid (∀ Z, Keep W Z → Z.cell? ⟨g3, 0, none⟩ = some (.int .i32 e) ∧ Z.cell? ⟨g3, 1, none⟩ = some (.slice ka kn kc)) := Hid.mk (fun Z kz => ⟨kz.cell a0, kz.cell a1⟩)
  have HK := Hid.mk hk
  have HM := Hid.mk hm
  have HS := Hid.mk h
  have HKW := Hid.mk kW
  have HDK := Hid.mk (drv_key h key us 153 hkl)
  have HKL := Hid.mk hkl
  have DV : Hid (∀ Z, Keep W Z → Calls Tryz.prog 72 #[.agg #[.int .i32 e, .slice ka kn kc], .int .u32 us, .int .u8 153] Z (RB Z (drvF e key us 153))) := Hid.mk (fun Z kz => derive_c h ka kn kc key us 153 Z (hk.keep (kW.trans kz)) hkl hus)
  clear hk hm kW aW hkl
  go_enter Tryz.func63, Tryz.ntmps63
  go_upto_region 1 with fail
  rw [← hg3, ← hW]
  clear hg3 hW
  have Q0 : Keep W W.drew := (Keep.refl W).drew
  go_region_held3 (fun Z => Z.cell? ⟨g3, 0, none⟩ = some (.int .i32 e) ∧ Z.cell? ⟨g3, 1, none⟩ = some (.slice ka kn kc))
    ((refine HALL.out _ ?_; first | (with_reducible exact Q2) | (with_reducible exact Q1) | (with_reducible exact Q0) | (with_reducible exact (Keep.refl _))))
    (first
    | (go_at_call 72; refine (DV.out _ Q0).mono ?_; rintro x y1 ⟨u1, rfl, b1, q1⟩; have Q1 : Keep W y1 := Q0.trans q1)
    | (go_at_call 71; refine (mac_c e HS.out _ _ (drvF e key us 153) msg _ b1 (HM.out.keep (HKW.out.trans Q1)) HDK.out.1 hml HDK.out.2.1).mono ?_; rintro x y2 ⟨u2, rfl, b2, q2⟩; have Q2 : Keep W y2 := Q1.trans q2))
  rename_i hHd
  have HR := Hid.mk b2
  have HKR := Hid.mk (HKW.out.trans Q2)
  clear hHd a0 a1 b1 b2 q1 q2 Q0 Q1 Q2
  go_wp2_with fail
  go_ret
  exact ⟨_, rfl, HR.out, HKR.out⟩
/-- Some n octets, in a block that is not older than the call. -/
def RNF (w : World) (n : Nat) (e : Ending) (w' : World) : Prop := ∃ (a : Option Addr) (c : Nat) (l : List UInt8), e = .returned (.slice a n c) ∧ l.length = n ∧ Bs w' (.slice a n c) l ∧ Keep w w' ∧ ∀ k, (Value.slice a n c).ownBlock = some k → w.heap.size ≤ k
theorem own_rnf {w w1 w' : World} {v : Value} {l : List UInt8} {n : Nat} (h : Own w1.heap.size 5 w' v (l.map cb)) (k : Keep w w') (k1 : Keep w w1) (hl : l.length = n) : RNF w n (.returned v) w' := by
  obtain ⟨a, c, h1, h2, h3, -⟩ := h.bs.form
  subst h1
  rw [hl] at h ⊢
  exact ⟨a, c, l, rfl, hl, h.bs, k, fun q hq => Nat.le_trans k1.size (h.lt q hq).1⟩
set_option maxRecDepth 4000 in
set_option maxHeartbeats 4000000 in
theorem encrypt_c {e : Int} (h : srv e) (ka : Option Addr) (kn kc : Nat) (key : List UInt8) (us : Nat) (cv pv : Value) (cf p : List UInt8) (n : Nat) (w : World) (hk : Bs w (.slice ka kn kc) key) (hkl : key.length = kl e) (hus : us < 4294967296) (hc : Bs w cv cf) (hcl : cf.length = 16) (hp : Bs w pv p) (hpl : p.length = n) (hn : n ≤ 1800000) :
    Calls Tryz.prog 68 #[.agg #[.int .i32 e, .slice ka kn kc], .int .u32 us, cv, pv] w (RNF w (16 + n + cl e)) := by
  obtain ⟨W, hW⟩ : ∃ W, W = w.alloc (.cells #[.int .i32 e, .slice ka kn kc] 43) := ⟨_, rfl⟩
  have kW : Keep w W := by rw [hW]; exact (Keep.refl w).alloc _
  have aW : Arr W w.heap.size 43 [.int .i32 e, .slice ka kn kc] := by rw [hW]; exact Arr.new w 43 _
  obtain ⟨g4, hg4⟩ : ∃ g4, g4 = w.heap.size := ⟨_, rfl⟩
  rw [← hg4] at aW
  have a0 : W.cell? ⟨g4, 0, none⟩ = some (.int .i32 e) := aW.cell 0
  have a1 : W.cell? ⟨g4, 1, none⟩ = some (.slice ka kn kc) := aW.cell 1
  have HALL : Hid (∀ Z, Keep W Z → Z.cell? ⟨g4, 0, none⟩ = some (.int .i32 e) ∧ Z.cell? ⟨g4, 1, none⟩ = some (.slice ka kn kc)) := Hid.mk (fun Z kz => ⟨kz.cell a0, kz.cell a1⟩)
  have HK := Hid.mk hk
  have HC := Hid.mk hc
  have HP := Hid.mk hp
  have HCL := Hid.mk hcl
  have HPL := Hid.mk hpl
  have HS := Hid.mk h
  have HKW := Hid.mk kW
  have HDK := Hid.mk (drv_key h key us 170 hkl)
  have HDI := Hid.mk (drv_key h key us 85 hkl)
  have HKE : Hid ((drvF e key us 170).length = ksz (cof e)) := Hid.mk (by rw [cof_ksz h]; exact (drv_key h key us 170 hkl).2.2 rfl)
  have HKL := Hid.mk hkl
  have DV : Hid (∀ Z, Keep W Z → Calls Tryz.prog 72 #[.agg #[.int .i32 e, .slice ka kn kc], .int .u32 us, .int .u8 170] Z (RB Z (drvF e key us 170))) := Hid.mk (fun Z kz => derive_c h ka kn kc key us 170 Z (hk.keep (kW.trans kz)) hkl hus)
  have DI : Hid (∀ Z, Keep W Z → Calls Tryz.prog 72 #[.agg #[.int .i32 e, .slice ka kn kc], .int .u32 us, .int .u8 85] Z (RB Z (drvF e key us 85))) := Hid.mk (fun Z kz => derive_c h ka kn kc key us 85 Z (hk.keep (kW.trans kz)) hkl hus)
  have CO : Hid (∀ Z, Calls Tryz.prog 76 #[.int .i32 e] Z fun x w' => x = .returned (.int .i64 (cof e)) ∧ w' = Z) := Hid.mk (fun Z => cipherOf_c e Z h)
  clear hk hc hp hcl hpl kW aW hkl
  generalize hal : cof e = al at *
  have HAL := Hid.mk hal
  clear hal
  go_enter Tryz.func68, Tryz.ntmps68
  go_upto_region 1 with fail
  rw [← hg4, ← hW]
  clear hg4 hW
  have kd := (Keep.refl W).drew
  refine en1_c g4 e (.slice ka kn kc) us al rfl rfl rfl (kd.cell a0) (kd.cell a1) (fun k u Z => match k with
    | 0 => u = .int .i64 al
    | 1 => Bs Z u (drvF e key us 170)
    | _ => ∃ ua un uc, u = .agg #[.int .i64 al, .slice ua un uc] ∧ Own 0 5 Z (.slice ua un uc) ((drvF e key us 170).map cb)) ?_ ?_ ?_ ?_ ?_ ?_ ?_ ?_
  · intro k u Z Z' kz hu
    match k, hu with
    | 0, hu => exact hu
    | 1, hu => exact Bs.keep hu kz
    | k + 2, ⟨ua, un, uc, e, ho⟩ => exact ⟨ua, un, uc, e, ho.keep kz⟩
  · rintro u Z p cs ds ha hp ⟨ua, un, uc, e, ho⟩
    exact ⟨ua, un, uc, e, ho.kept (grown_setRow (grown_refl Z _) _) (Or.inr (own_ne_arr ho ha (by decide)))⟩
  · intro Z kz
    refine (CO.out Z).mono ?_
    rintro x y ⟨rfl, rfl⟩
    exact ⟨_, rfl, rfl, Keep.refl _⟩
  · intro u Z hu
    exact hu
  · intro Z kz
    refine (DV.out Z (kd.trans kz)).mono ?_
    rintro x y ⟨u, rfl, b, q⟩
    exact ⟨_, rfl, b, q⟩
  · intro Z u1 kz hu
    refine (newC_c al u1 (drvF e key us 170) Z hu HDK.out.1).mono ?_
    rintro x y ⟨u, rfl, o, q⟩
    obtain ⟨ua, uc, hu3, -, -, -⟩ := o.bs.form
    subst hu3
    exact ⟨_, rfl, ⟨ua, _, uc, rfl, o.mono (Nat.zero_le _)⟩, q⟩
  · rintro u Z ⟨ua, un, uc, rfl, -⟩
    exact ⟨[.int .i64 al, .slice ua un uc], rfl, rfl, by simp [Value.oneCell']⟩
  intro vs1 w1 g9 ds e3 hp0 ha hv2 k1
  obtain ⟨ua, un, uc, hds, ho⟩ := hv2
  have hds2 : ds = [.int .i64 al, .slice ua un uc] := by
    injection hds with hds
    have := congrArg Array.toList hds
    simpa using this
  subst hds2
  simp only [Go.Qv.Lmx, en1T, List.filterMap_cons, List.filterMap_nil, Go.Qv.ment, Option.map_some, Option.map_none, Go.Qv.mval, e3, Option.getD_some, Go.Qv.lay, List.foldl_cons, List.foldl_nil]
  simp only [Go.Qv.put_litx, List.set_cons_succ, List.set_cons_zero]
  have HK1 := Hid.mk (kd.trans k1)
  have HA9 := Hid.mk ha
  have HOE := Hid.mk ho.bs
  have D2 := Hid.mk (DI.out w1 HK1.out)
  have b0 := HK1.out.cell a0
  have b1 := HK1.out.cell a1
  clear hds ho ha kd k1 e3 hp0 a0 a1
  go_wp2_with fail
  refine D2.out.mono ?_
  rintro x w2 ⟨ki, rfl, bki, k2⟩
  have HBI := Hid.mk bki
  have HK2 := Hid.mk (HK1.out.trans k2)
  have HA92 := Hid.mk (HA9.out.keep k2)
  have HOE2 := Hid.mk (HOE.out.keep k2)
  have R3 := Hid.mk (repeat_c 0 16 w2 (by omega))
  clear bki k2 b0 b1
  go_wp2_with fail
  refine R3.out.mono ?_
  rintro x w3 ⟨st, rfl, ost, k3⟩
  have HST := Hid.mk ost.bs
  have HK3 := Hid.mk (HK2.out.trans k3)
  have HBI3 := Hid.mk (HBI.out.keep k3)
  have HA93 := Hid.mk (HA92.out.keep k3)
  have HOE3 := Hid.mk (HOE2.out.keep k3)
  have J4 := Hid.mk (join_c cv pv cf p w3 (HC.out.keep (HKW.out.trans HK3.out)) (HP.out.keep (HKW.out.trans HK3.out)) (by rw [HCL.out, HPL.out]; omega))
  clear ost k3
  go_wp2_with fail
  refine J4.out.mono ?_
  rintro x w4 ⟨ba, rfl, oba, k4⟩
  have HBA := Hid.mk oba.bs
  have HK4 := Hid.mk (HK3.out.trans k4)
  have HST4 := Hid.mk (HST.out.keep k4)
  have HBI4 := Hid.mk (HBI3.out.keep k4)
  have aa := HA93.out.keep k4
  have c0 : w4.cell? ⟨g9, 0, none⟩ = some (.int .i64 al) := aa.cell 0
  have c1 : w4.cell? ⟨g9, 1, none⟩ = some (.slice ua un uc) := aa.cell 1
  have HBL : Hid ((cf ++ p).length = 16 + n) := Hid.mk (by rw [List.length_append, HCL.out, HPL.out])
  have hAl : Alg al := by rw [← HAL.out]; exact cof_alg e
  have C5 := Hid.mk (cts_c al ua un uc (drvF e key us 170) (encF al (drvF e key us 170)) (enc_c al ua un uc _ HKE.out hAl) hAl st ba (List.replicate 16 0) (cf ++ p) w4 (HOE3.out.keep k4) HST4.out HBA.out (by simp) (16 + n) HBL.out (by omega) (by omega))
  clear oba k4 aa hAl
  go_wp2_with fail
  refine C5.out.mono ?_
  rintro x w5 ⟨ca, cc, lc, rfl, hlc, bc, k5⟩
  have HLC := Hid.mk hlc
  have HBC := Hid.mk bc
  have HK5 := Hid.mk (HK4.out.trans k5)
  have HST5 := Hid.mk (HST4.out.keep k5)
  have HBI5 := Hid.mk (HBI4.out.keep k5)
  have HBA5 := Hid.mk (HBA.out.keep k5)
  obtain ⟨d0, d1⟩ := HALL.out w5 HK5.out
  have OC : Hid (∀ Z, Calls Tryz.prog 77 #[.int .i32 e] Z fun x w' => x = .returned (.bool (decide (e = 19 ∨ e = 20))) ∧ w' = Z) := Hid.mk (fun Z => overC_c e Z HS.out)
  have HEN : Hid (mcF e (drvF e key us 85) = mcF e (drvF e key us 85)) := Hid.mk rfl
  have HMCL : Hid (∀ t, (mcF e (drvF e key us 85) t).length = cl e) := Hid.mk (fun t => mcF_length HS.out _ t HDI.out.2.1)
  have hcl9 := cl_le e
  clear hlc bc k5 c0 c1
  cases hov : decide (e = 19 ∨ e = 20) with
  | true =>
    rw [hov] at OC
    clear hov
    go_wp2_with fail
    refine (OC.out _).mono ?_
    rintro x y ⟨rfl, hy⟩
    have hy2 := hy.symm
    clear hy
    subst hy2
    have Q0 : Keep w5 w5.drew := (Keep.refl w5).drew
    have HALL5 : Hid (∀ Z, Keep w5 Z → Z.cell? ⟨g4, 0, none⟩ = some (.int .i32 e)) := Hid.mk (fun Z kz => (HALL.out Z (HK5.out.trans kz)).1)
    go_upto_region 7 with fail
    go_region_held3 (fun Z => Z.cell? ⟨g4, 0, none⟩ = some (.int .i32 e))
      ((refine HALL5.out _ ?_; first | (with_reducible exact Q3) | (with_reducible exact Q2) | (with_reducible exact Q1) | (with_reducible exact Q0) | (with_reducible exact (Keep.refl _))))
      (first
      | (go_at_call 78; (fail_if_success have := Q1); refine (join_c _ _ (List.replicate 16 0) lc _ (HST5.out.keep Q0) (HBC.out.keep Q0) (by rw [HLC.out]; simp; omega)).mono ?_; rintro x y1 ⟨z1, rfl, o1, q1⟩; have Q1 : Keep w5 y1 := Q0.trans q1)
      | (go_at_call 71; refine (mac_c e HS.out _ _ (drvF e key us 85) (List.replicate 16 0 ++ lc) _ (HBI5.out.keep Q1) o1.bs HDI.out.1 (by rw [List.length_append, HLC.out]; simp; omega) HDI.out.2.1).mono ?_; rintro x y2 ⟨z2, rfl, b2, q2⟩; have Q2 : Keep w5 y2 := Q1.trans q2)
      | (go_at_call 78; refine (join_c _ _ lc (mcF e (drvF e key us 85) (List.replicate 16 0 ++ lc)) _ (HBC.out.keep Q2) b2 (by rw [HLC.out, HMCL.out]; omega)).mono ?_; rintro x y3 ⟨z3, rfl, o3, q3⟩; have Q3 : Keep w5 y3 := Q2.trans q3))
    rename_i hHd
    have HR := Hid.mk (own_rnf (w := w) o3 (HKW.out.trans (HK5.out.trans Q3)) (HKW.out.trans (HK5.out.trans Q2)) (n := 16 + n + cl e) (by rw [List.length_append, HLC.out, HMCL.out]))
    clear hHd o1 b2 o3 q1 q2 q3 Q0 Q1 Q2 Q3 d0 d1
    go_wp2_with fail
    go_ret
    exact HR.out
  | false =>
    rw [hov] at OC
    clear hov
    go_wp2_with fail
    refine (OC.out _).mono ?_
    rintro x y ⟨rfl, hy⟩
    have hy2 := hy.symm
    clear hy
    subst hy2
    have M6 := Hid.mk (mac_c e HS.out ki ba (drvF e key us 85) (cf ++ p) w5 HBI5.out HBA5.out HDI.out.1 (by rw [HBL.out]; omega) HDI.out.2.1)
    go_wp2_with fail
    refine M6.out.mono ?_
    rintro x w6 ⟨v6, rfl, b6, k6⟩
    have J7 := Hid.mk (join_c _ v6 lc (mcF e (drvF e key us 85) (cf ++ p)) w6 (HBC.out.keep k6) b6 (by rw [HLC.out, HMCL.out]; omega))
    have HK6 := Hid.mk (HK5.out.trans k6)
    clear b6 k6
    go_wp2_with fail
    refine J7.out.mono ?_
    rintro x w7 ⟨v7, rfl, o7, k7⟩
    have HR := Hid.mk (own_rnf (w := w) o7 (HKW.out.trans (HK6.out.trans k7)) (HKW.out.trans HK6.out) (n := 16 + n + cl e) (by rw [List.length_append, HLC.out, HMCL.out]))
    clear o7 k7
    go_wp2_with fail
    go_ret
    exact HR.out
end Go.Proofs.Qxb6500771aGreat
