/- token.planWrap where it plans. -/
import Derived.Test.Qxb6500771aGreatIg
import Derived.Deep.Cut
import Derived.Deep.RegionHeld3
namespace Go.Proofs.Qxb6500771aGreat
open Go.RowKit Go.Qm
set_option linter.unusedVariables false
set_option linter.unusedSimpArgs false
attribute [local go_sem ↓] Go.wp_at_zero Go.wp_at_succ
theorem new4 (w : World) (o o' o'' : Obj) (t : TypeId) (cs : List Value) : Arr ((((w.alloc o).alloc o').alloc o'').alloc (.cells cs.toArray t)) (w.heap.size + 1 + 1 + 1) t cs := by
  have := new3 (w.alloc o) o' o'' t cs
  rw [World.size_alloc] at this
  exact this
theorem _root_.Go.Qm.Keep.set6 {a w : World} (h : Keep a w) {g : Nat} (hg : a.heap.size ≤ g) (u0 u1 u2 u3 u4 u5 : Value) : Keep a ((((((w.setCell ⟨g, 0, none⟩ u0).setCell ⟨g, 1, none⟩ u1).setCell ⟨g, 2, none⟩ u2).setCell ⟨g, 3, none⟩ u3).setCell ⟨g, 4, none⟩ u4).setCell ⟨g, 5, none⟩ u5) :=
  (((((h.setCell hg _).setCell hg _).setCell hg _).setCell hg _).setCell hg _).setCell hg _
/-- Six cells laid. -/
abbrev st6 (w : World) (g : Nat) (u0 u1 u2 u3 u4 u5 : Value) : World := (((((w.setCell ⟨g, 0, none⟩ u0).setCell ⟨g, 1, none⟩ u1).setCell ⟨g, 2, none⟩ u2).setCell ⟨g, 3, none⟩ u3).setCell ⟨g, 4, none⟩ u4).setCell ⟨g, 5, none⟩ u5
theorem grown_set6 {a w : World} {g : Nat} (h : a.grownBy w (some g)) (u0 u1 u2 u3 u4 u5 : Value) : a.grownBy (st6 w g u0 u1 u2 u3 u4 u5) (some g) :=
  grown_set (grown_set (grown_set (grown_set (grown_set (grown_set h 0 u0) 1 u1) 2 u2) 3 u3) 4 u4) 5 u5
theorem arr_set6 {w : World} {g : Nat} {t : TypeId} {z0 z1 z2 z3 z4 z5 : Value} (h : Arr w g t [z0, z1, z2, z3, z4, z5]) (u0 u1 u2 u3 u4 u5 : Value) : Arr (st6 w g u0 u1 u2 u3 u4 u5) g t [u0, u1, u2, u3, u4, u5] :=
  (((((h.set 0 u0).set 1 u1).set 2 u2).set 3 u3).set 4 u4).set 5 u5
set_option maxRecDepth 4000 in
set_option maxHeartbeats 4000000 in
theorem planWrap_ok (e : Int) (ao : Option Addr) (kn co : Nat) (us f sq ec rrc : Nat) (ac : Option Addr) (nc cc n : Nat) (w : World) (hs : srv e) (hkn : kn = kl e) (hf : f < 8) (hec : ec < 65536) (hn : n ≤ 1048576) (sealed : Bool) (hsl : sealed = decide (f / 2 % 2 = 1)) (hcf : sealed = true → nc = 16) (hx : sealed = false → ec = 0) :
    Calls Tryz.prog 44 #[.agg #[.int .i32 e, .slice ao kn co], .agg #[.int .u32 us, .int .u8 f, .int .u64 sq, .int .u16 ec, .int .u16 rrc, .slice ac nc cc], .int .i64 n] w fun x w' =>
      x = .returned (.tuple #[.agg #[.int .i64 (kl e), .int .i64 16, .int .i64 (cl e), .bool sealed, .int .i64 n, .int .i64 ((ovh e sealed ec + n : Nat) : Int)], .int .i64 0]) ∧ Keep w w' := by
  have hov := ovh_le (e := e) (sealed := sealed) hec
  obtain ⟨W, hW⟩ : ∃ W, W = ((w.alloc (.cells #[.int .i32 e, .slice ao kn co] 43)).alloc (.cells #[.int .u32 us, .int .u8 f, .int .u64 sq, .int .u16 ec, .int .u16 rrc, .slice ac nc cc] 46)).alloc (.cells zer6.toArray 87) := ⟨_, rfl⟩
  have kW : Keep w W := by rw [hW]; exact (((Keep.refl w).alloc _).alloc _).alloc _
  have A3 : Arr W w.heap.size 43 [.int .i32 e, .slice ao kn co] := by rw [hW]; exact ((Arr.new w 43 _).keep ((Keep.refl _).alloc _)).keep ((Keep.refl _).alloc _)
  have A4 : Arr W (w.heap.size + 1) 46 [.int .u32 us, .int .u8 f, .int .u64 sq, .int .u16 ec, .int .u16 rrc, .slice ac nc cc] := by rw [hW]; exact (new2 w _ 46 _).keep ((Keep.refl _).alloc _)
  have A6 : Arr W (w.heap.size + 1 + 1) 87 zer6 := by rw [hW]; exact new3 w _ _ 87 _
  unfold zer6 at hW
  have x0 : ¬ (n : Int) > 1048576 := by omega
  have x1 : IntKind.i64.wrap ((ovh e sealed ec : Int) + n) = ((ovh e sealed ec + n : Nat) : Int) := by rw [IntKind.wrap_i64]; omega
  have hf2 : f < 256 := by omega
  have hc0 : cf 1284 f = 0 := by unfold cf; rw [if_neg (by omega), if_neg (by omega)]
  have CF : Hid (∀ Z, Calls Tryz.prog 58 #[.int .u16 1284, .int .u8 f] Z fun e w' => e = .returned (.int .i64 0) ∧ Keep Z w') := Hid.mk (fun Z => (checkFlags_c 1284 f Z (by omega) hf2).mono (by rintro x y ⟨rfl, k⟩; rw [hc0]; exact ⟨rfl, k⟩))
  have SE : Hid (∀ Z, Calls Tryz.prog 8 #[.int .u8 f] Z fun e w' => e = .returned (.bool sealed) ∧ Keep Z w') := Hid.mk (fun Z => by rw [hsl]; exact sealed_c f Z hf2)
  have CK := Hid.mk (checkKey_ok e ao kn co W hs hkn)
  have OV : Hid (∀ Z, Calls Tryz.prog 34 #[.int .i32 e, .agg #[.int .i64 (kl e), .int .i64 16, .int .i64 (cl e)], .bool sealed, .int .u16 ec] Z fun x w' => x = .returned (.int .i64 (ovh e sealed ec)) ∧ Keep Z w') := Hid.mk (fun Z => overhead_c e _ _ sealed ec Z hs hec)
  have HKW := Hid.mk kW
  have HA3 := Hid.mk A3
  have HA4 := Hid.mk A4
  have HA6 := Hid.mk A6
  generalize ovh e sealed ec = o at *
  generalize kl e = a at *
  generalize cl e = b at *
  clear hn hkn hc0 hsl hov hf hf2 A3 A4 A6 kW hs
  go_enter Tryz.func44, Tryz.ntmps44
  go_wp2_with fail
  rw [← hW]
  have c0 : W.cell? ⟨w.heap.size, 0, none⟩ = some (.int .i32 e) := HA3.out.cell 0
  have c1 : W.cell? ⟨w.heap.size, 1, none⟩ = some (.slice ao kn co) := HA3.out.cell 1
  have HGW : Hid (w.heap.size + 1 + 1 < W.heap.size) := Hid.mk HA6.out.lt
  clear hW
  refine CK.out.mono ?_
  rintro x w1 ⟨rfl, k1⟩
  obtain ⟨W1, hW1⟩ : ∃ W1, W1 = w1.alloc (.cells #[.int .i64 a, .int .i64 16, .int .i64 b] 69) := ⟨_, rfl⟩
  have A8 : Arr W1 w1.heap.size 69 [.int .i64 a, .int .i64 16, .int .i64 b] := by rw [hW1]; exact Arr.new w1 69 _
  have kk : Keep W W1 := by rw [hW1]; exact k1.alloc _
  have HK1 := Hid.mk kk
  have HA8 := Hid.mk A8
  obtain ⟨g8, hg8⟩ : ∃ g8, g8 = w1.heap.size := ⟨_, rfl⟩
  rw [← hg8] at HA8
  have HG8 : Hid (W.heap.size ≤ g8) := Hid.mk (by rw [hg8]; exact k1.size)
  have e1 := (HA4.out.keep kk).cell 1
  simp only [List.getElem?_cons_zero, List.getElem?_cons_succ] at e1
  rw [hW1] at e1
  clear kk A8 k1
  go_wp2_with fail
  rw [← hW1, ← hg8]
  clear hW1 hg8 e1
  refine (CF.out W1).mono ?_
  rintro x w2 ⟨rfl, k2⟩
  have HALL : Hid (∀ Z, Keep W1 Z → Z.cell? ⟨w.heap.size, 0, none⟩ = some (.int .i32 e) ∧ Z.cell? ⟨w.heap.size + 1, 1, none⟩ = some (.int .u8 f) ∧ Z.cell? ⟨w.heap.size + 1, 3, none⟩ = some (.int .u16 ec) ∧ Z.cell? ⟨w.heap.size + 1, 5, none⟩ = some (.slice ac nc cc) ∧ Z.cell? ⟨g8, 0, none⟩ = some (.int .i64 a) ∧ Z.cell? ⟨g8, 1, none⟩ = some (.int .i64 16) ∧ Z.cell? ⟨g8, 2, none⟩ = some (.int .i64 b)) :=
    Hid.mk (fun Z kz => ⟨(HA3.out.keep (HK1.out.trans kz)).cell 0, (HA4.out.keep (HK1.out.trans kz)).cell 1, (HA4.out.keep (HK1.out.trans kz)).cell 3, (HA4.out.keep (HK1.out.trans kz)).cell 5, (HA8.out.keep kz).cell 0, (HA8.out.keep kz).cell 1, (HA8.out.keep kz).cell 2⟩)
  have HST : Hid (∀ Z u0 u1 u2 u3 u4 u5, Keep W1 Z → (st6 Z (w.heap.size + 1 + 1) u0 u1 u2 u3 u4 u5).cell? ⟨w.heap.size, 0, none⟩ = some (.int .i32 e) ∧ (st6 Z (w.heap.size + 1 + 1) u0 u1 u2 u3 u4 u5).cell? ⟨w.heap.size + 1, 1, none⟩ = some (.int .u8 f) ∧ (st6 Z (w.heap.size + 1 + 1) u0 u1 u2 u3 u4 u5).cell? ⟨w.heap.size + 1, 3, none⟩ = some (.int .u16 ec) ∧ (st6 Z (w.heap.size + 1 + 1) u0 u1 u2 u3 u4 u5).cell? ⟨w.heap.size + 1, 5, none⟩ = some (.slice ac nc cc) ∧ (st6 Z (w.heap.size + 1 + 1) u0 u1 u2 u3 u4 u5).cell? ⟨g8, 0, none⟩ = some (.int .i64 a) ∧ (st6 Z (w.heap.size + 1 + 1) u0 u1 u2 u3 u4 u5).cell? ⟨g8, 1, none⟩ = some (.int .i64 16) ∧ (st6 Z (w.heap.size + 1 + 1) u0 u1 u2 u3 u4 u5).cell? ⟨g8, 2, none⟩ = some (.int .i64 b)) :=
    Hid.mk (fun Z u0 u1 u2 u3 u4 u5 kz => by
      have gr := grown_set6 (grown_refl Z (some (w.heap.size + 1 + 1))) u0 u1 u2 u3 u4 u5
      have z3 := (HA3.out.keep (HK1.out.trans kz)).kept gr (by omega)
      have z4 := (HA4.out.keep (HK1.out.trans kz)).kept gr (by omega)
      have z8 := (HA8.out.keep kz).kept gr (by have := HGW.out; have := HG8.out; omega)
      exact ⟨z3.cell 0, z4.cell 1, z4.cell 3, z4.cell 5, z8.cell 0, z8.cell 1, z8.cell 2⟩)
  have HK2 := Hid.mk k2
  obtain ⟨m0, m1, m2, m3, m4, m5, m6⟩ := HALL.out w2 k2
  clear k2
  go_wp2_with fail
  refine (SE.out w2).mono ?_
  rintro x w3 ⟨rfl, k3⟩
  have HK3 := Hid.mk (HK2.out.trans k3)
  obtain ⟨m0, m1, m2, m3, m4, m5, m6⟩ := HALL.out w3 HK3.out
  clear k3
  cases sealed with
  | true =>
    have hnc := hcf rfl
    subst hnc
    go_upto_region 14 with fail
    have Q0 : Keep W1 w3.drew := HK3.out.drew
    go_region_held3 (fun Z => Z.cell? ⟨w.heap.size, 0, none⟩ = some (.int .i32 e) ∧ Z.cell? ⟨w.heap.size + 1, 1, none⟩ = some (.int .u8 f) ∧ Z.cell? ⟨w.heap.size + 1, 3, none⟩ = some (.int .u16 ec) ∧ Z.cell? ⟨w.heap.size + 1, 5, none⟩ = some (.slice ac 16 cc) ∧ Z.cell? ⟨g8, 0, none⟩ = some (.int .i64 a) ∧ Z.cell? ⟨g8, 1, none⟩ = some (.int .i64 16) ∧ Z.cell? ⟨g8, 2, none⟩ = some (.int .i64 b))
      ((first | (refine HALL.out _ ?_; first | (with_reducible exact Q1) | (with_reducible exact Q0)) | (with_reducible refine HST.out _ _ _ _ _ _ _ ?_; with_reducible exact Q1)))
      (first
      | (go_at_call 34; refine (OV.out _).mono ?_; rintro x w4 ⟨rfl, q1⟩; have Q1 : Keep W1 w4 := Q0.trans q1; have NB : Arr w4 (w.heap.size + 1 + 1) 87 zer6 := HA6.out.keep (HK1.out.trans Q1); have t0 := NB.cell 0; have t1 := NB.cell 1; have t2 := NB.cell 2; have t3 := NB.cell 3; have t4 := NB.cell 4; have t5 := NB.cell 5; simp only [zer6, List.getElem?_cons_zero, List.getElem?_cons_succ] at t0 t1 t2 t3 t4 t5; have u0 := NB.frozen 0; have u1 := NB.frozen 1; have u2 := NB.frozen 2; have u3 := NB.frozen 3; have u4 := NB.frozen 4; have u5 := NB.frozen 5))
    rename_i hHd
    have AR := arr_set6 NB (.int .i64 a) (.int .i64 16) (.int .i64 b) (.bool true) (.int .i64 n) (.int .i64 ((o : Int) + n))
    unfold st6 at AR
    have r0 := AR.cell 0
    have r1 := AR.cell 1
    have r2 := AR.cell 2
    have r3 := AR.cell 3
    have r4 := AR.cell 4
    have r5 := AR.cell 5
    simp only [List.getElem?_cons_zero, List.getElem?_cons_succ] at r0 r1 r2 r3 r4 r5
    have HKF := Hid.mk (((HKW.out.trans HK1.out).trans Q1).set6 (g := w.heap.size + 1 + 1) (by omega) (.int .i64 a) (.int .i64 16) (.int .i64 b) (.bool true) (.int .i64 n) (.int .i64 ((o : Int) + n)))
    generalize hZ : ((((((w4.setCell ⟨w.heap.size + 1 + 1, 0, none⟩ (.int .i64 a)).setCell ⟨w.heap.size + 1 + 1, 1, none⟩ (.int .i64 16)).setCell ⟨w.heap.size + 1 + 1, 2, none⟩ (.int .i64 b)).setCell ⟨w.heap.size + 1 + 1, 3, none⟩ (.bool true)).setCell ⟨w.heap.size + 1 + 1, 4, none⟩ (.int .i64 n)).setCell ⟨w.heap.size + 1 + 1, 5, none⟩ (.int .i64 ((o : Int) + n))) = Z at *
    clear hHd hZ NB AR t0 t1 t2 t3 t4 t5 u0 u1 u2 u3 u4 u5 m0 m1 m2 m3 m4 m5 m6 q1 Q1 Q0
    go_wp2_with fail
    refine bodyPost_ret (v := .tuple #[.agg #[.int .i64 a, .int .i64 16, .int .i64 b, .bool true, .int .i64 n, .int .i64 ((o : Int) + n)], .int .i64 0]) (by simp [results, Tryz.results44, go_sem, r0, r1, r2, r3, r4, r5]) rfl ⟨rfl, HKF.out⟩
  | false =>
    have hz := hx rfl
    subst hz
    go_upto_region 14 with fail
    have Q0 : Keep W1 w3.drew := HK3.out.drew
    go_region_held3 (fun Z => Z.cell? ⟨w.heap.size, 0, none⟩ = some (.int .i32 e) ∧ Z.cell? ⟨w.heap.size + 1, 1, none⟩ = some (.int .u8 f) ∧ Z.cell? ⟨w.heap.size + 1, 3, none⟩ = some (.int .u16 (0 : Nat)) ∧ Z.cell? ⟨w.heap.size + 1, 5, none⟩ = some (.slice ac nc cc) ∧ Z.cell? ⟨g8, 0, none⟩ = some (.int .i64 a) ∧ Z.cell? ⟨g8, 1, none⟩ = some (.int .i64 16) ∧ Z.cell? ⟨g8, 2, none⟩ = some (.int .i64 b))
      ((first | (refine HALL.out _ ?_; first | (with_reducible exact Q1) | (with_reducible exact Q0)) | (with_reducible refine HST.out _ _ _ _ _ _ _ ?_; with_reducible exact Q1)))
      (first
      | (go_at_call 34; refine (OV.out _).mono ?_; rintro x w4 ⟨rfl, q1⟩; have Q1 : Keep W1 w4 := Q0.trans q1; have NB : Arr w4 (w.heap.size + 1 + 1) 87 zer6 := HA6.out.keep (HK1.out.trans Q1); have t0 := NB.cell 0; have t1 := NB.cell 1; have t2 := NB.cell 2; have t3 := NB.cell 3; have t4 := NB.cell 4; have t5 := NB.cell 5; simp only [zer6, List.getElem?_cons_zero, List.getElem?_cons_succ] at t0 t1 t2 t3 t4 t5; have u0 := NB.frozen 0; have u1 := NB.frozen 1; have u2 := NB.frozen 2; have u3 := NB.frozen 3; have u4 := NB.frozen 4; have u5 := NB.frozen 5))
    rename_i hHd
    have AR := arr_set6 NB (.int .i64 a) (.int .i64 16) (.int .i64 b) (.bool false) (.int .i64 n) (.int .i64 ((o : Int) + n))
    unfold st6 at AR
    have r0 := AR.cell 0
    have r1 := AR.cell 1
    have r2 := AR.cell 2
    have r3 := AR.cell 3
    have r4 := AR.cell 4
    have r5 := AR.cell 5
    simp only [List.getElem?_cons_zero, List.getElem?_cons_succ] at r0 r1 r2 r3 r4 r5
    have HKF := Hid.mk (((HKW.out.trans HK1.out).trans Q1).set6 (g := w.heap.size + 1 + 1) (by omega) (.int .i64 a) (.int .i64 16) (.int .i64 b) (.bool false) (.int .i64 n) (.int .i64 ((o : Int) + n)))
    generalize hZ : ((((((w4.setCell ⟨w.heap.size + 1 + 1, 0, none⟩ (.int .i64 a)).setCell ⟨w.heap.size + 1 + 1, 1, none⟩ (.int .i64 16)).setCell ⟨w.heap.size + 1 + 1, 2, none⟩ (.int .i64 b)).setCell ⟨w.heap.size + 1 + 1, 3, none⟩ (.bool false)).setCell ⟨w.heap.size + 1 + 1, 4, none⟩ (.int .i64 n)).setCell ⟨w.heap.size + 1 + 1, 5, none⟩ (.int .i64 ((o : Int) + n))) = Z at *
    clear hHd hZ NB AR t0 t1 t2 t3 t4 t5 u0 u1 u2 u3 u4 u5 m0 m1 m2 m3 m4 m5 m6 q1 Q1 Q0
    go_wp2_with fail
    refine bodyPost_ret (v := .tuple #[.agg #[.int .i64 a, .int .i64 16, .int .i64 b, .bool false, .int .i64 n, .int .i64 ((o : Int) + n)], .int .i64 0]) (by simp [results, Tryz.results44, go_sem, r0, r1, r2, r3, r4, r5]) rfl ⟨rfl, HKF.out⟩
end Go.Proofs.Qxb6500771aGreat
