/- token.WrapParts, Wrap: the token that they make. -/
import Derived.Test.Qxb6500771aGreatIh
import Derived.Test.Qxb6500771aGreatIf
namespace Go.Proofs.Qxb6500771aGreat
open Go.RowKit Go.Qm
set_option linter.unusedVariables false
set_option linter.unusedSimpArgs false
attribute [local go_sem ↓] Go.wp_at_zero Go.wp_at_succ
/-- A fresh slice of N octets with TK, and no error. -/
def RT (w : World) (N : Nat) (TK : List UInt8 → Prop) (x : Ending) (w' : World) : Prop := ∃ g t, x = .returned (.tuple #[.slice (some ⟨g, 0, none⟩) N N, .int .i64 0]) ∧ w.heap.size ≤ g ∧ TK t ∧ t.length = N ∧ Win w' g 5 [] t [] ∧ Keep w w'
set_option maxRecDepth 4000 in
set_option maxHeartbeats 4000000 in
theorem wrapParts_c (da : Option Addr) (e : Int) (ao : Option Addr) (kn co : Nat) (us f sq ec rrc : Nat) (ac : Option Addr) (nc cc gp : Nat) (am : Option Addr) (n cm a b N : Nat) (sealed : Bool) (TK : List UInt8 → Prop) (w : World) (hn : n ≤ 1048576) (hN0 : 0 < N) (hN : N ≤ 4000000) (hc : w.cell? ⟨gp, 0, none⟩ = some (.slice am n cm))
    (HP : ∀ W, Calls Tryz.prog 44 #[.agg #[.int .i32 e, .slice ao kn co], .agg #[.int .u32 us, .int .u8 f, .int .u64 sq, .int .u16 ec, .int .u16 rrc, .slice ac nc cc], .int .i64 n] W fun x w' => x = .returned (.tuple #[.agg #[.int .i64 a, .int .i64 16, .int .i64 b, .bool sealed, .int .i64 n, .int .i64 N], .int .i64 0]) ∧ Keep W w')
    (WR : ∀ Z g m, Keep w Z → N = m.length → Win Z g 5 [] m [] → Calls Tryz.prog 46 #[.slice (some ⟨g, 0, none⟩) N N, .agg #[.int .i64 a, .int .i64 16, .int .i64 b, .bool sealed, .int .i64 n, .int .i64 N], .agg #[.int .i32 e, .slice ao kn co], .agg #[.int .u32 us, .int .u8 f, .int .u64 sq, .int .u16 ec, .int .u16 rrc, .slice ac nc cc], .slice (some ⟨gp, 0, none⟩) 1 1] Z fun x w' => x = .returned (.tuple #[]) ∧ (∃ t, TK t ∧ t.length = N ∧ Win w' g 5 [] t []) ∧ Z.grownBy w' (some g)) :
    Calls Tryz.prog 35 #[.slice da 0 0, .agg #[.int .i32 e, .slice ao kn co], .agg #[.int .u32 us, .int .u8 f, .int .u64 sq, .int .u16 ec, .int .u16 rrc, .slice ac nc cc], .slice (some ⟨gp, 0, none⟩) 1 1] w (RT w N TK) := by
  have K0 := ((Keep.refl w).alloc (.cells #[.int .i32 e, .slice ao kn co] 43)).alloc (.cells #[.int .u32 us, .int .u8 f, .int .u64 sq, .int .u16 ec, .int .u16 rrc, .slice ac nc cc] 46)
  have AK := (Arr.new w 43 [.int .i32 e, .slice ao kn co]).keep ((Keep.refl _).alloc (.cells #[.int .u32 us, .int .u8 f, .int .u64 sq, .int .u16 ec, .int .u16 rrc, .slice ac nc cc] 46))
  have AS := new2 w (.cells #[.int .i32 e, .slice ao kn co] 43) 46 [.int .u32 us, .int .u8 f, .int .u64 sq, .int .u16 ec, .int .u16 rrc, .slice ac nc cc]
  have ALL : ∀ w', Keep ((w.alloc (.cells #[.int .i32 e, .slice ao kn co] 43)).alloc (.cells #[.int .u32 us, .int .u8 f, .int .u64 sq, .int .u16 ec, .int .u16 rrc, .slice ac nc cc] 46)) w' → (w'.cell? ⟨w.heap.size, 0, none⟩ = some (.int .i32 e) ∧ w'.cell? ⟨w.heap.size, 1, none⟩ = some (.slice ao kn co) ∧ w'.cell? ⟨w.heap.size + 1, 0, none⟩ = some (.int .u32 us) ∧ w'.cell? ⟨w.heap.size + 1, 1, none⟩ = some (.int .u8 f) ∧ w'.cell? ⟨w.heap.size + 1, 2, none⟩ = some (.int .u64 sq) ∧ w'.cell? ⟨w.heap.size + 1, 3, none⟩ = some (.int .u16 ec) ∧ w'.cell? ⟨w.heap.size + 1, 4, none⟩ = some (.int .u16 rrc) ∧ w'.cell? ⟨w.heap.size + 1, 5, none⟩ = some (.slice ac nc cc)) := fun W K => by
    have B1 := AK.keep K
    have B2 := AS.keep K
    exact ⟨B1.cell 0, B1.cell 1, B2.cell 0, B2.cell 1, B2.cell 2, B2.cell 3, B2.cell 4, B2.cell 5⟩
  have LO : Hid (∀ W, Keep w W → Calls Tryz.prog 45 #[.slice (some ⟨gp, 0, none⟩) 1 1] W fun x w' => x = .returned (.int .i64 n) ∧ Keep W w') := Hid.mk (fun W K => by
    have := lengthOf_c gp am n cm W (by omega) (K.cell hc)
    rw [show lof n = n from if_pos hn] at this
    exact this)
  have HPL := Hid.mk HP
  have HWR := Hid.mk WR
  have EX : Hid (∀ W, Calls Tryz.prog 40 #[.slice da 0 0, .int .i64 N] W fun e w' => ∃ g, e = .returned (.tuple #[.slice (some ⟨g, 0, none⟩) N N, .slice (some ⟨g, 0, none⟩) N N]) ∧ W.heap.size ≤ g ∧ Win w' g 5 [] (List.replicate N 0) [] ∧ Keep W w') := Hid.mk (fun W => extend_c da N W hN hN0)
  clear hn hN hN0 HP WR hc
  generalize hWA : (w.alloc (.cells #[.int .i32 e, .slice ao kn co] 43)).alloc (.cells #[.int .u32 us, .int .u8 f, .int .u64 sq, .int .u16 ec, .int .u16 rrc, .slice ac nc cc] 46) = WA at *
  obtain ⟨h1, h2, h3, h4, h5, h6, h7, h8⟩ := ALL WA (Keep.refl _)
  have HALL := Hid.mk ALL
  clear ALL AK AS
  go_enter Tryz.func35, Tryz.ntmps35
  go_wp2_with fail
  try rw [hWA]
  clear hWA
  go_region_held3 (fun w' => w'.cell? ⟨w.heap.size, 0, none⟩ = some (.int .i32 e) ∧ w'.cell? ⟨w.heap.size, 1, none⟩ = some (.slice ao kn co) ∧ w'.cell? ⟨w.heap.size + 1, 0, none⟩ = some (.int .u32 us) ∧ w'.cell? ⟨w.heap.size + 1, 1, none⟩ = some (.int .u8 f) ∧ w'.cell? ⟨w.heap.size + 1, 2, none⟩ = some (.int .u64 sq) ∧ w'.cell? ⟨w.heap.size + 1, 3, none⟩ = some (.int .u16 ec) ∧ w'.cell? ⟨w.heap.size + 1, 4, none⟩ = some (.int .u16 rrc) ∧ w'.cell? ⟨w.heap.size + 1, 5, none⟩ = some (.slice ac nc cc))
    ((refine HALL.out _ ?_; first | (with_reducible exact Q2) | (with_reducible exact Q2.alloc _) | (with_reducible exact Q2.set6 hQ _ _ _ _ _ _) | (with_reducible exact Q1) | (with_reducible exact Q1.alloc _) | (with_reducible exact (Keep.refl _).drew) | (with_reducible exact ((Keep.refl _).alloc _).drew)))
    (first
    | (go_at_call 45; refine (LO.out _ ?_).mono ?_; (first | (with_reducible exact K0.drew) | (with_reducible exact (K0.alloc _).drew)); rintro x y1 ⟨rfl, q1⟩; have Q1 : Keep WA y1 := (by first | (with_reducible exact (Keep.refl WA).drew.trans q1) | (with_reducible exact ((Keep.refl WA).alloc _).drew.trans q1)); (first | (have NA : Arr y1 WA.heap.size 87 zer6 := Arr.keep (Arr.new WA 87 zer6) (by unfold zer6; with_reducible exact (Keep.refl _).drew.trans q1)) | skip))
    | (go_at_call 44; refine (HPL.out _).mono ?_; rintro x y2 ⟨rfl, q2⟩; have Q2 : Keep WA y2 := (by first | (with_reducible exact Q1.trans q2) | (with_reducible exact (Q1.alloc _).trans q2)); (first | (have NB : Arr y2 WA.heap.size 87 zer6 := NA.keep q2; have hQ : WA.heap.size ≤ WA.heap.size := Nat.le_refl _; have t0 := NB.cell 0; have t1 := NB.cell 1; have t2 := NB.cell 2; have t3 := NB.cell 3; have t4 := NB.cell 4; have t5 := NB.cell 5; simp only [zer6, List.getElem?_cons_zero, List.getElem?_cons_succ] at t0 t1 t2 t3 t4 t5; have u0 := NB.frozen 0; have u1 := NB.frozen 1; have u2 := NB.frozen 2; have u3 := NB.frozen 3; have u4 := NB.frozen 4; have u5 := NB.frozen 5) | (have NB : Arr y2 y1.heap.size 87 zer6 := Arr.keep (Arr.new y1 87 zer6) (by unfold zer6; with_reducible exact q2); have hQ : WA.heap.size ≤ y1.heap.size := Q1.size; have t0 := NB.cell 0; have t1 := NB.cell 1; have t2 := NB.cell 2; have t3 := NB.cell 3; have t4 := NB.cell 4; have t5 := NB.cell 5; simp only [zer6, List.getElem?_cons_zero, List.getElem?_cons_succ] at t0 t1 t2 t3 t4 t5; have u0 := NB.frozen 0; have u1 := NB.frozen 1; have u2 := NB.frozen 2; have u3 := NB.frozen 3; have u4 := NB.frozen 4; have u5 := NB.frozen 5) | skip)))
  · rename_i hHd
    have AP : Arr (y2.alloc (.cells #[.int .i64 a, .int .i64 16, .int .i64 b, .bool sealed, .int .i64 n, .int .i64 N] 87)) y2.heap.size 87 [.int .i64 a, .int .i64 16, .int .i64 b, .bool sealed, .int .i64 n, .int .i64 N] := Arr.new y2 87 _
    have KP : Keep WA (y2.alloc (.cells #[.int .i64 a, .int .i64 16, .int .i64 b, .bool sealed, .int .i64 n, .int .i64 N] 87)) := Q2.alloc _
    have hgq0 : WA.heap.size ≤ y2.heap.size := Q2.size
    clear hHd
    generalize hZ : y2.alloc (.cells #[.int .i64 a, .int .i64 16, .int .i64 b, .bool sealed, .int .i64 n, .int .i64 N] 87) = Z at *
    clear hZ
    generalize hgq : y2.heap.size = gq at *
    clear hgq
    have HK := Hid.mk KP
    have HA := Hid.mk AP
    have HG : Hid (w.heap.size ≤ gq ∧ gq < Z.heap.size) := Hid.mk ⟨Nat.le_trans K0.size hgq0, AP.lt⟩
    obtain ⟨c0, c1, c2, c3, c4, c5, c6, c7⟩ := HALL.out Z KP
    have a0 := AP.cell 0
    have a1 := AP.cell 1
    have a2 := AP.cell 2
    have a3 := AP.cell 3
    have a4 := AP.cell 4
    have a5 := AP.cell 5
    simp only [List.getElem?_cons_zero, List.getElem?_cons_succ] at a0 a1 a2 a3 a4 a5
    clear KP AP hgq0 q1 q2 Q1 Q2
    go_wp2_with fail
    refine (EX.out Z).mono ?_
    rintro x z1 ⟨gt, rfl, hgt, V1, k1⟩
    have HK1 := Hid.mk (HK.out.trans k1)
    obtain ⟨c0, c1, c2, c3, c4, c5, c6, c7⟩ := HALL.out z1 HK1.out
    have AP := HA.out.keep k1
    have a0 := AP.cell 0
    have a1 := AP.cell 1
    have a2 := AP.cell 2
    have a3 := AP.cell 3
    have a4 := AP.cell 4
    have a5 := AP.cell 5
    simp only [List.getElem?_cons_zero, List.getElem?_cons_succ] at a0 a1 a2 a3 a4 a5
    have C2 := Hid.mk (HWR.out z1 gt (List.replicate N 0) (K0.trans HK1.out) (by simp) V1)
    have HGT : Hid (w.heap.size ≤ gt) := Hid.mk (Nat.le_trans (Nat.le_trans K0.size HK.out.size) hgt)
    clear V1 k1 hgt AP
    go_wp2_with fail
    refine C2.out.mono ?_
    rintro x z2 ⟨rfl, ⟨t, ht, htl, V2⟩, gr2⟩
    have HT := Hid.mk ht
    have HTL := Hid.mk htl
    have HV2 := Hid.mk V2
    have HK2 := Hid.mk ((K0.trans HK1.out).grown gr2 (fun k hk => by cases hk; exact HGT.out))
    clear ht htl V2 gr2 C2 c0 c1 c2 c3 c4 c5 c6 c7 a0 a1 a2 a3 a4 a5
    go_wp2_with fail
    go_ret2
    exact ⟨gt, t, rfl, HGT.out, HT.out, HTL.out, HV2.out, HK2.out⟩
  · rename_i hHd
    have AP := arr_set6 (show Arr y2 y1.heap.size 87 [.int .i64 0, .int .i64 0, .int .i64 0, .bool false, .int .i64 0, .int .i64 0] from NB) (.int .i64 a) (.int .i64 16) (.int .i64 b) (.bool sealed) (.int .i64 n) (.int .i64 N)
    unfold st6 at AP
    have KP := Q2.set6 hQ (.int .i64 a) (.int .i64 16) (.int .i64 b) (.bool sealed) (.int .i64 n) (.int .i64 N)
    have hgq0 : WA.heap.size ≤ y1.heap.size := hQ
    clear hHd NB t0 t1 t2 t3 t4 t5 u0 u1 u2 u3 u4 u5 hQ
    generalize hZ : ((((((y2.setCell ⟨y1.heap.size, 0, none⟩ (.int .i64 a)).setCell ⟨y1.heap.size, 1, none⟩ (.int .i64 16)).setCell ⟨y1.heap.size, 2, none⟩ (.int .i64 b)).setCell ⟨y1.heap.size, 3, none⟩ (.bool sealed)).setCell ⟨y1.heap.size, 4, none⟩ (.int .i64 n)).setCell ⟨y1.heap.size, 5, none⟩ (.int .i64 N)) = Z at *
    clear hZ
    obtain ⟨gq, hgq⟩ : ∃ gq, gq = y1.heap.size := ⟨_, rfl⟩
    rw [← hgq] at AP hgq0
    rw [← hgq]
    clear hgq
    have HK := Hid.mk KP
    have HA := Hid.mk AP
    have HG : Hid (w.heap.size ≤ gq ∧ gq < Z.heap.size) := Hid.mk ⟨Nat.le_trans K0.size hgq0, AP.lt⟩
    obtain ⟨c0, c1, c2, c3, c4, c5, c6, c7⟩ := HALL.out Z KP
    have a0 := AP.cell 0
    have a1 := AP.cell 1
    have a2 := AP.cell 2
    have a3 := AP.cell 3
    have a4 := AP.cell 4
    have a5 := AP.cell 5
    simp only [List.getElem?_cons_zero, List.getElem?_cons_succ] at a0 a1 a2 a3 a4 a5
    clear KP AP hgq0 q1 q2 Q1 Q2
    go_wp2_with fail
    refine (EX.out Z).mono ?_
    rintro x z1 ⟨gt, rfl, hgt, V1, k1⟩
    have HK1 := Hid.mk (HK.out.trans k1)
    obtain ⟨c0, c1, c2, c3, c4, c5, c6, c7⟩ := HALL.out z1 HK1.out
    have AP := HA.out.keep k1
    have a0 := AP.cell 0
    have a1 := AP.cell 1
    have a2 := AP.cell 2
    have a3 := AP.cell 3
    have a4 := AP.cell 4
    have a5 := AP.cell 5
    simp only [List.getElem?_cons_zero, List.getElem?_cons_succ] at a0 a1 a2 a3 a4 a5
    have C2 := Hid.mk (HWR.out z1 gt (List.replicate N 0) (K0.trans HK1.out) (by simp) V1)
    have HGT : Hid (w.heap.size ≤ gt) := Hid.mk (Nat.le_trans (Nat.le_trans K0.size HK.out.size) hgt)
    clear V1 k1 hgt AP
    go_wp2_with fail
    refine C2.out.mono ?_
    rintro x z2 ⟨rfl, ⟨t, ht, htl, V2⟩, gr2⟩
    have HT := Hid.mk ht
    have HTL := Hid.mk htl
    have HV2 := Hid.mk V2
    have HK2 := Hid.mk ((K0.trans HK1.out).grown gr2 (fun k hk => by cases hk; exact HGT.out))
    clear ht htl V2 gr2 C2 c0 c1 c2 c3 c4 c5 c6 c7 a0 a1 a2 a3 a4 a5
    go_wp2_with fail
    go_ret2
    exact ⟨gt, t, rfl, HGT.out, HT.out, HTL.out, HV2.out, HK2.out⟩
  · rename_i hHd
    have AP := arr_set6 (show Arr y2 WA.heap.size 87 [.int .i64 0, .int .i64 0, .int .i64 0, .bool false, .int .i64 0, .int .i64 0] from NB) (.int .i64 a) (.int .i64 16) (.int .i64 b) (.bool sealed) (.int .i64 n) (.int .i64 N)
    unfold st6 at AP
    have KP := Q2.set6 hQ (.int .i64 a) (.int .i64 16) (.int .i64 b) (.bool sealed) (.int .i64 n) (.int .i64 N)
    have hgq0 : WA.heap.size ≤ WA.heap.size := hQ
    clear hHd NB t0 t1 t2 t3 t4 t5 u0 u1 u2 u3 u4 u5 hQ NA
    generalize hZ : ((((((y2.setCell ⟨WA.heap.size, 0, none⟩ (.int .i64 a)).setCell ⟨WA.heap.size, 1, none⟩ (.int .i64 16)).setCell ⟨WA.heap.size, 2, none⟩ (.int .i64 b)).setCell ⟨WA.heap.size, 3, none⟩ (.bool sealed)).setCell ⟨WA.heap.size, 4, none⟩ (.int .i64 n)).setCell ⟨WA.heap.size, 5, none⟩ (.int .i64 N)) = Z at *
    clear hZ
    obtain ⟨gq, hgq⟩ : ∃ gq, gq = WA.heap.size := ⟨_, rfl⟩
    have hgq0 : WA.heap.size ≤ gq := Nat.le_of_eq hgq.symm
    rw [← hgq] at AP
    rw [← hgq]
    clear hgq
    have HK := Hid.mk KP
    have HA := Hid.mk AP
    have HG : Hid (w.heap.size ≤ gq ∧ gq < Z.heap.size) := Hid.mk ⟨Nat.le_trans K0.size hgq0, AP.lt⟩
    obtain ⟨c0, c1, c2, c3, c4, c5, c6, c7⟩ := HALL.out Z KP
    have a0 := AP.cell 0
    have a1 := AP.cell 1
    have a2 := AP.cell 2
    have a3 := AP.cell 3
    have a4 := AP.cell 4
    have a5 := AP.cell 5
    simp only [List.getElem?_cons_zero, List.getElem?_cons_succ] at a0 a1 a2 a3 a4 a5
    clear KP AP hgq0 q1 q2 Q1 Q2
    go_wp2_with fail
    refine (EX.out Z).mono ?_
    rintro x z1 ⟨gt, rfl, hgt, V1, k1⟩
    have HK1 := Hid.mk (HK.out.trans k1)
    obtain ⟨c0, c1, c2, c3, c4, c5, c6, c7⟩ := HALL.out z1 HK1.out
    have AP := HA.out.keep k1
    have a0 := AP.cell 0
    have a1 := AP.cell 1
    have a2 := AP.cell 2
    have a3 := AP.cell 3
    have a4 := AP.cell 4
    have a5 := AP.cell 5
    simp only [List.getElem?_cons_zero, List.getElem?_cons_succ] at a0 a1 a2 a3 a4 a5
    have C2 := Hid.mk (HWR.out z1 gt (List.replicate N 0) (K0.trans HK1.out) (by simp) V1)
    have HGT : Hid (w.heap.size ≤ gt) := Hid.mk (Nat.le_trans (Nat.le_trans K0.size HK.out.size) hgt)
    clear V1 k1 hgt AP
    go_wp2_with fail
    refine C2.out.mono ?_
    rintro x z2 ⟨rfl, ⟨t, ht, htl, V2⟩, gr2⟩
    have HT := Hid.mk ht
    have HTL := Hid.mk htl
    have HV2 := Hid.mk V2
    have HK2 := Hid.mk ((K0.trans HK1.out).grown gr2 (fun k hk => by cases hk; exact HGT.out))
    clear ht htl V2 gr2 C2 c0 c1 c2 c3 c4 c5 c6 c7 a0 a1 a2 a3 a4 a5
    go_wp2_with fail
    go_ret2
    exact ⟨gt, t, rfl, HGT.out, HT.out, HTL.out, HV2.out, HK2.out⟩
set_option maxHeartbeats 2000000 in
theorem wrap_c (da : Option Addr) (e : Int) (ao : Option Addr) (kn co : Nat) (us f sq ec rrc : Nat) (ac : Option Addr) (nc cc : Nat) (am : Option Addr) (n cm a b N : Nat) (sealed : Bool) (TK : List UInt8 → Prop) (w : World) (hn : n ≤ 1048576) (hN0 : 0 < N) (hN : N ≤ 4000000)
    (HP : ∀ W, Calls Tryz.prog 44 #[.agg #[.int .i32 e, .slice ao kn co], .agg #[.int .u32 us, .int .u8 f, .int .u64 sq, .int .u16 ec, .int .u16 rrc, .slice ac nc cc], .int .i64 n] W fun x w' => x = .returned (.tuple #[.agg #[.int .i64 a, .int .i64 16, .int .i64 b, .bool sealed, .int .i64 n, .int .i64 N], .int .i64 0]) ∧ Keep W w')
    (WR : ∀ Z g m gp, Keep w Z → Z.cell? ⟨gp, 0, none⟩ = some (.slice am n cm) → N = m.length → Win Z g 5 [] m [] → Calls Tryz.prog 46 #[.slice (some ⟨g, 0, none⟩) N N, .agg #[.int .i64 a, .int .i64 16, .int .i64 b, .bool sealed, .int .i64 n, .int .i64 N], .agg #[.int .i32 e, .slice ao kn co], .agg #[.int .u32 us, .int .u8 f, .int .u64 sq, .int .u16 ec, .int .u16 rrc, .slice ac nc cc], .slice (some ⟨gp, 0, none⟩) 1 1] Z fun x w' => x = .returned (.tuple #[]) ∧ (∃ t, TK t ∧ t.length = N ∧ Win w' g 5 [] t []) ∧ Z.grownBy w' (some g)) :
    Calls Tryz.prog 13 #[.slice da 0 0, .agg #[.int .i32 e, .slice ao kn co], .agg #[.int .u32 us, .int .u8 f, .int .u64 sq, .int .u16 ec, .int .u16 rrc, .slice ac nc cc], .slice am n cm] w (RT w N TK) := by
  have K0 := (((Keep.refl w).alloc (.cells #[.int .i32 e, .slice ao kn co] 43)).alloc (.cells #[.int .u32 us, .int .u8 f, .int .u64 sq, .int .u16 ec, .int .u16 rrc, .slice ac nc cc] 46)).alloc (.cells #[.slice am n cm] 26)
  have A0 := new3 w (.cells #[.int .i32 e, .slice ao kn co] 43) (.cells #[.int .u32 us, .int .u8 f, .int .u64 sq, .int .u16 ec, .int .u16 rrc, .slice ac nc cc] 46) 26 [.slice am n cm]
  have C := Hid.mk (wrapParts_c da e ao kn co us f sq ec rrc ac nc cc (w.heap.size + 1 + 1) am n cm a b N sealed TK _ hn hN0 hN (A0.cell 0) HP (fun Z g m kz hm hw => WR Z g m _ (K0.trans kz) ((A0.keep kz).cell 0) hm hw))
  have HK := Hid.mk K0
  clear HP WR hn hN hN0 A0 K0
  go_enter Tryz.func13, Tryz.ntmps13
  go_wp2_with fail
  refine C.out.mono ?_
  rintro x w1 ⟨g, t, rfl, hg, ht, htl, V, k1⟩
  have HG : Hid (w.heap.size ≤ g) := Hid.mk (Nat.le_trans HK.out.size hg)
  have HT := Hid.mk ht
  have HTL := Hid.mk htl
  have HV := Hid.mk V
  have HK1 := Hid.mk (HK.out.trans k1)
  clear hg ht htl V k1
  go_wp2_with fail
  go_ret2
  exact ⟨g, t, rfl, HG.out, HT.out, HTL.out, HV.out, HK1.out⟩
/-- The token that Wrap makes, sealed: as long as the formula says. -/
theorem wrapS_c {e : Int} (hS : srv e) (da : Option Addr) (ka : Option Addr) (kn kc : Nat) (us f sq ec rrc : Nat) (ac : Option Addr) (nc cc : Nat) (ma : Option Addr) (n mc : Nat) (key conf msg : List UInt8) (w : World)
    (hk : Bs w (.slice ka kn kc) key) (hkl : key.length = kl e) (hus : us < 4294967296) (hf : f < 8) (hf2 : f / 2 % 2 = 1) (hsq : sq < 2 ^ 64) (hec : ec < 65536) (hrrc : rrc < 65536) (hcf : Bs w (.slice ac nc cc) conf) (hcfl : conf.length = 16) (hm : Bs w (.slice ma n mc) msg) (hml : msg.length = n) (hn : n ≤ 1048576) :
    Calls Tryz.prog 13 #[.slice da 0 0, .agg #[.int .i32 e, .slice ka kn kc], .agg #[.int .u32 us, .int .u8 f, .int .u64 sq, .int .u16 ec, .int .u16 rrc, .slice ac nc cc], .slice ma n mc] w (RT w (ovh e true ec + n) (fun _ => True)) := by
  have ho := ovh_le (e := e) (sealed := true) hec
  have hcl := cl_le e
  have hcl0 : 0 < cl e := by rcases hS with h | h | h | h | h | h <;> subst h <;> decide
  have hkn : kn = kl e := by
    obtain ⟨a, c, h1, -⟩ := hk.form
    simp only [Value.slice.injEq] at h1
    omega
  have hnc : nc = 16 := by
    obtain ⟨a, c, h1, -⟩ := hcf.form
    simp only [Value.slice.injEq] at h1
    omega
  have hov : ovh e true ec + n = 16 + (16 + (n + ec + 16) + cl e) := by unfold ovh; rw [if_pos rfl]; omega
  refine wrap_c da e ka kn kc us f sq ec rrc ac nc cc ma n mc (kl e) (cl e) _ true _ w hn (by omega) (by omega) (fun W => planWrap_ok e ka kn kc us f sq ec rrc ac nc cc n W hS hkn hf hec hn true (by rw [decide_eq_true hf2]) (fun _ => hnc) (fun h => by cases h)) ?_
  intro Z g m gp kz hp hmm hw
  refine (writeWrapS_c hS g _ (ovh e true ec + n) n _ m msg key [] ka kn kc us f sq ec rrc ac nc cc gp ma mc Z hmm hov hec conf (hcf.keep kz) hcfl hn (Nat.le_refl _) (by unfold maxLen; omega) hw (hk.keep kz) hkl hus (by omega) hsq hrrc hp (hm.keep kz) hml hcl0).mono ?_
  rintro x w' ⟨rfl, ⟨t, h1, h2⟩, h3⟩
  exact ⟨rfl, ⟨t, trivial, h1, h2⟩, h3⟩
/-- The token that Wrap makes, not sealed. -/
def tokU (e : Int) (key msg : List UInt8) (us f sq rrc n : Nat) : List UInt8 := enc 1284 f (cl e) rrc sq ++ rtr (msg ++ mcF e (drvF e key us 153) (msg ++ enc 1284 f 0 0 sq)) (rrc % (n + cl e))
theorem wrapU_c {e : Int} (hS : srv e) (da : Option Addr) (ka : Option Addr) (kn kc : Nat) (us f sq rrc : Nat) (ac : Option Addr) (nc cc : Nat) (ma : Option Addr) (n mc : Nat) (key msg : List UInt8) (w : World)
    (hk : Bs w (.slice ka kn kc) key) (hkl : key.length = kl e) (hus : us < 4294967296) (hf : f < 8) (hf2 : ¬ f / 2 % 2 = 1) (hsq : sq < 2 ^ 64) (hrrc : rrc < 65536) (hm : Bs w (.slice ma n mc) msg) (hml : msg.length = n) (hn : n ≤ 1048576) :
    Calls Tryz.prog 13 #[.slice da 0 0, .agg #[.int .i32 e, .slice ka kn kc], .agg #[.int .u32 us, .int .u8 f, .int .u64 sq, .int .u16 (0 : Nat), .int .u16 rrc, .slice ac nc cc], .slice ma n mc] w (RT w (ovh e false 0 + n) (fun t => t = tokU e key msg us f sq rrc n)) := by
  have hcl := cl_le e
  have hcl0 : 0 < cl e := by rcases hS with h | h | h | h | h | h <;> subst h <;> decide
  have hkn : kn = kl e := by
    obtain ⟨a, c, h1, -⟩ := hk.form
    simp only [Value.slice.injEq] at h1
    omega
  have hov : ovh e false 0 + n = 16 + (n + cl e) := by unfold ovh; rw [if_neg (by decide)]; omega
  have hSL := mcF_length hS (drvF e key us 153) (msg ++ enc 1284 f 0 0 sq) (drv_key hS key us 153 hkl).2.1
  refine wrap_c da e ka kn kc us f sq 0 rrc ac nc cc ma n mc (kl e) (cl e) _ false _ w hn (by omega) (by omega) (fun W => planWrap_ok e ka kn kc us f sq 0 rrc ac nc cc n W hS hkn hf (by omega) hn false (by rw [decide_eq_false hf2]) (fun h => by cases h) (fun _ => rfl)) ?_
  intro Z g m gp kz hp hmm hw
  refine (writeWrapU_c hS g _ (ovh e false 0 + n) n _ m msg key [] ka kn kc us f sq 0 rrc ac nc cc gp ma mc Z hmm hov hn (Nat.le_refl _) (by unfold maxLen; omega) hw (hk.keep kz) hkl hus (by omega) hsq hrrc hp (hm.keep kz) hml hcl0).mono ?_
  rintro x w' ⟨rfl, h2, h3⟩
  refine ⟨rfl, ⟨_, rfl, ?_, h2⟩, h3⟩
  rw [hov, tokU, List.length_append, enc_length, rtr_length, List.length_append, hml, hSL]
end Go.Proofs.Qxb6500771aGreat
