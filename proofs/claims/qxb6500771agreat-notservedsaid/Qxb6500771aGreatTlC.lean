/- WrapParts, Wrap, MICParts, MIC: what they answer when they refuse; the lengths. -/
import Derived.Test.Qxb6500771aGreatTlB
namespace Go.Proofs.Qxb6500771aGreat
open Go.RowKit Go.Qm
set_option linter.unusedVariables false
set_option linter.unusedSimpArgs false
attribute [local go_sem ↓] Go.wp_at_zero Go.wp_at_succ

theorem _root_.Go.Qm.Keep.set6 {a w : World} (h : Keep a w) {g : Nat} (hg : a.heap.size ≤ g) (u0 u1 u2 u3 u4 u5 : Value) : Keep a ((((((w.setCell ⟨g, 0, none⟩ u0).setCell ⟨g, 1, none⟩ u1).setCell ⟨g, 2, none⟩ u2).setCell ⟨g, 3, none⟩ u3).setCell ⟨g, 4, none⟩ u4).setCell ⟨g, 5, none⟩ u5) :=
  (((((h.setCell hg _).setCell hg _).setCell hg _).setCell hg _).setCell hg _).setCell hg _
set_option maxHeartbeats 2000000 in
theorem wrapParts_ref (dv : Value) (e : Int) (ao : Option Addr) (n co q : Nat) (us f sq ec rrc : Nat) (ac : Option Addr) (nc cc g : Nat) (am : Option Addr) (nm cm : Nat) (w : World) (hq0 : q ≠ 0) (hnm : nm ≤ 1000000000) (hc : w.cell? ⟨g, 0, none⟩ = some (.slice am nm cm))
    (HP : ∀ W, Calls Tryz.prog 44 #[.agg #[.int .i32 e, .slice ao n co], .agg #[.int .u32 us, .int .u8 f, .int .u64 sq, .int .u16 ec, .int .u16 rrc, .slice ac nc cc], .int .i64 (lof nm)] W fun x w' => x = .returned (.tuple #[.agg #[.int .i64 0, .int .i64 0, .int .i64 0, .bool false, .int .i64 0, .int .i64 0], .int .i64 q]) ∧ Keep W w') :
    Calls Tryz.prog 35 #[dv, .agg #[.int .i32 e, .slice ao n co], .agg #[.int .u32 us, .int .u8 f, .int .u64 sq, .int .u16 ec, .int .u16 rrc, .slice ac nc cc], .slice (some ⟨g, 0, none⟩) 1 1] w fun x w' => x = .returned (.tuple #[dv, .int .i64 q]) ∧ Keep w w' := by
  have yq : ((q : Int) != 0) = true := bne_t (by omega)
  have K0 := ((Keep.refl w).alloc (.cells #[.int .i32 e, .slice ao n co] 43)).alloc (.cells #[.int .u32 us, .int .u8 f, .int .u64 sq, .int .u16 ec, .int .u16 rrc, .slice ac nc cc] 46)
  have AK := (Arr.new w 43 [.int .i32 e, .slice ao n co]).keep ((Keep.refl _).alloc (.cells #[.int .u32 us, .int .u8 f, .int .u64 sq, .int .u16 ec, .int .u16 rrc, .slice ac nc cc] 46))
  have AS := new2 w (.cells #[.int .i32 e, .slice ao n co] 43) 46 [.int .u32 us, .int .u8 f, .int .u64 sq, .int .u16 ec, .int .u16 rrc, .slice ac nc cc]
  have ALL : ∀ w', Keep ((w.alloc (.cells #[.int .i32 e, .slice ao n co] 43)).alloc (.cells #[.int .u32 us, .int .u8 f, .int .u64 sq, .int .u16 ec, .int .u16 rrc, .slice ac nc cc] 46)) w' → (w'.cell? ⟨w.heap.size, 0, none⟩ = some (.int .i32 e) ∧ w'.cell? ⟨w.heap.size, 1, none⟩ = some (.slice ao n co) ∧ w'.cell? ⟨w.heap.size + 1, 0, none⟩ = some (.int .u32 us) ∧ w'.cell? ⟨w.heap.size + 1, 1, none⟩ = some (.int .u8 f) ∧ w'.cell? ⟨w.heap.size + 1, 2, none⟩ = some (.int .u64 sq) ∧ w'.cell? ⟨w.heap.size + 1, 3, none⟩ = some (.int .u16 ec) ∧ w'.cell? ⟨w.heap.size + 1, 4, none⟩ = some (.int .u16 rrc) ∧ w'.cell? ⟨w.heap.size + 1, 5, none⟩ = some (.slice ac nc cc)) := fun W K => by
    have B1 := AK.keep K
    have B2 := AS.keep K
    exact ⟨B1.cell 0, B1.cell 1, B2.cell 0, B2.cell 1, B2.cell 2, B2.cell 3, B2.cell 4, B2.cell 5⟩
  have LO := fun W (K : Keep w W) => lengthOf_c g am nm cm W hnm (K.cell hc)
  generalize lof nm = ln at *
  generalize hWA : (w.alloc (.cells #[.int .i32 e, .slice ao n co] 43)).alloc (.cells #[.int .u32 us, .int .u8 f, .int .u64 sq, .int .u16 ec, .int .u16 rrc, .slice ac nc cc] 46) = WA at *
  obtain ⟨h1, h2, h3, h4, h5, h6, h7, h8⟩ := ALL WA (Keep.refl _)
  go_enter Tryz.func35, Tryz.ntmps35
  go_wp2_with fail
  try rw [hWA]
  clear hWA
  go_region_held3 (fun w' => w'.cell? ⟨w.heap.size, 0, none⟩ = some (.int .i32 e) ∧ w'.cell? ⟨w.heap.size, 1, none⟩ = some (.slice ao n co) ∧ w'.cell? ⟨w.heap.size + 1, 0, none⟩ = some (.int .u32 us) ∧ w'.cell? ⟨w.heap.size + 1, 1, none⟩ = some (.int .u8 f) ∧ w'.cell? ⟨w.heap.size + 1, 2, none⟩ = some (.int .u64 sq) ∧ w'.cell? ⟨w.heap.size + 1, 3, none⟩ = some (.int .u16 ec) ∧ w'.cell? ⟨w.heap.size + 1, 4, none⟩ = some (.int .u16 rrc) ∧ w'.cell? ⟨w.heap.size + 1, 5, none⟩ = some (.slice ac nc cc))
    ((refine ALL _ ?_; first | (with_reducible exact Q2) | (with_reducible exact Q2.alloc _) | (with_reducible exact Q2.set6 hQ _ _ _ _ _ _) | (with_reducible exact Q1) | (with_reducible exact Q1.alloc _) | (with_reducible exact (Keep.refl _).drew) | (with_reducible exact ((Keep.refl _).alloc _).drew)))
    (first
    | (go_at_call 45; refine (LO _ ?_).mono ?_; (first | (with_reducible exact K0.drew) | (with_reducible exact (K0.alloc _).drew)); rintro x y1 ⟨rfl, q1⟩; have Q1 : Keep WA y1 := (by first | (with_reducible exact (Keep.refl WA).drew.trans q1) | (with_reducible exact ((Keep.refl WA).alloc _).drew.trans q1)); (first | (have NA : Arr y1 WA.heap.size 87 zer6 := Arr.keep (Arr.new WA 87 zer6) (by unfold zer6; with_reducible exact (Keep.refl _).drew.trans q1)) | skip))
    | (go_at_call 44; refine (HP _).mono ?_; rintro x y2 ⟨rfl, q2⟩; have Q2 : Keep WA y2 := (by first | (with_reducible exact Q1.trans q2) | (with_reducible exact (Q1.alloc _).trans q2)); (first | (have NB : Arr y2 WA.heap.size 87 zer6 := NA.keep q2; have hQ : WA.heap.size ≤ WA.heap.size := Nat.le_refl _; have t0 := NB.cell 0; have t1 := NB.cell 1; have t2 := NB.cell 2; have t3 := NB.cell 3; have t4 := NB.cell 4; have t5 := NB.cell 5; simp only [zer6, List.getElem?_cons_zero, List.getElem?_cons_succ] at t0 t1 t2 t3 t4 t5; have u0 := NB.frozen 0; have u1 := NB.frozen 1; have u2 := NB.frozen 2; have u3 := NB.frozen 3; have u4 := NB.frozen 4; have u5 := NB.frozen 5) | (have NB : Arr y2 y1.heap.size 87 zer6 := Arr.keep (Arr.new y1 87 zer6) (by unfold zer6; with_reducible exact q2); have hQ : WA.heap.size ≤ y1.heap.size := Q1.size; have t0 := NB.cell 0; have t1 := NB.cell 1; have t2 := NB.cell 2; have t3 := NB.cell 3; have t4 := NB.cell 4; have t5 := NB.cell 5; simp only [zer6, List.getElem?_cons_zero, List.getElem?_cons_succ] at t0 t1 t2 t3 t4 t5; have u0 := NB.frozen 0; have u1 := NB.frozen 1; have u2 := NB.frozen 2; have u3 := NB.frozen 3; have u4 := NB.frozen 4; have u5 := NB.frozen 5) | skip)))
  all_goals
    go_wp2
    go_ret2
    refine ⟨rfl, K0.trans ?_⟩
    first
    | (with_reducible exact Q2.alloc _)
    | (with_reducible exact Q2.set6 hQ _ _ _ _ _ _)
set_option maxHeartbeats 2000000 in
theorem wrap_ref (dv : Value) (e : Int) (ao : Option Addr) (n co q : Nat) (us f sq ec rrc : Nat) (ac : Option Addr) (nc cc : Nat) (am : Option Addr) (nm cm : Nat) (w : World) (hq0 : q ≠ 0) (hnm : nm ≤ 1000000000)
    (HP : ∀ W, Calls Tryz.prog 44 #[.agg #[.int .i32 e, .slice ao n co], .agg #[.int .u32 us, .int .u8 f, .int .u64 sq, .int .u16 ec, .int .u16 rrc, .slice ac nc cc], .int .i64 (lof nm)] W fun x w' => x = .returned (.tuple #[.agg #[.int .i64 0, .int .i64 0, .int .i64 0, .bool false, .int .i64 0, .int .i64 0], .int .i64 q]) ∧ Keep W w') :
    Calls Tryz.prog 13 #[dv, .agg #[.int .i32 e, .slice ao n co], .agg #[.int .u32 us, .int .u8 f, .int .u64 sq, .int .u16 ec, .int .u16 rrc, .slice ac nc cc], .slice am nm cm] w fun x w' => x = .returned (.tuple #[dv, .int .i64 q]) ∧ Keep w w' := by
  have K0 := (((Keep.refl w).alloc (.cells #[.int .i32 e, .slice ao n co] 43)).alloc (.cells #[.int .u32 us, .int .u8 f, .int .u64 sq, .int .u16 ec, .int .u16 rrc, .slice ac nc cc] 46)).alloc (.cells #[.slice am nm cm] 26)
  have A0 := new3 w (.cells #[.int .i32 e, .slice ao n co] 43) (.cells #[.int .u32 us, .int .u8 f, .int .u64 sq, .int .u16 ec, .int .u16 rrc, .slice ac nc cc] 46) 26 [.slice am nm cm]
  go_enter Tryz.func13, Tryz.ntmps13
  go_wp2_with fail
  refine (wrapParts_ref dv e ao n co q us f sq ec rrc ac nc cc (w.heap.size + 1 + 1) am nm cm _ hq0 hnm (A0.cell 0) HP).mono ?_
  rintro x w1 ⟨rfl, k1⟩
  go_wp2
  go_ret2
  exact ⟨rfl, K0.trans k1⟩
set_option maxHeartbeats 2000000 in
theorem micParts_ref (dv : Value) (e : Int) (ao : Option Addr) (n co q : Nat) (us f sq ec rrc : Nat) (ac : Option Addr) (nc cc g : Nat) (am : Option Addr) (nm cm : Nat) (w : World) (hq0 : q ≠ 0) (hnm : nm ≤ 1000000000) (hc : w.cell? ⟨g, 0, none⟩ = some (.slice am nm cm))
    (HP : ∀ W, Calls Tryz.prog 47 #[.agg #[.int .i32 e, .slice ao n co], .agg #[.int .u32 us, .int .u8 f, .int .u64 sq, .int .u16 ec, .int .u16 rrc, .slice ac nc cc], .int .i64 (lof nm)] W fun x w' => x = .returned (.tuple #[.agg #[.int .i64 0, .int .i64 0, .int .i64 0], .int .i64 q]) ∧ Keep W w') :
    Calls Tryz.prog 36 #[dv, .agg #[.int .i32 e, .slice ao n co], .agg #[.int .u32 us, .int .u8 f, .int .u64 sq, .int .u16 ec, .int .u16 rrc, .slice ac nc cc], .slice (some ⟨g, 0, none⟩) 1 1] w fun x w' => x = .returned (.tuple #[dv, .int .i64 q]) ∧ Keep w w' := by
  have yq : ((q : Int) != 0) = true := bne_t (by omega)
  have K0 := ((Keep.refl w).alloc (.cells #[.int .i32 e, .slice ao n co] 43)).alloc (.cells #[.int .u32 us, .int .u8 f, .int .u64 sq, .int .u16 ec, .int .u16 rrc, .slice ac nc cc] 46)
  have AK := (Arr.new w 43 [.int .i32 e, .slice ao n co]).keep ((Keep.refl _).alloc (.cells #[.int .u32 us, .int .u8 f, .int .u64 sq, .int .u16 ec, .int .u16 rrc, .slice ac nc cc] 46))
  have AS := new2 w (.cells #[.int .i32 e, .slice ao n co] 43) 46 [.int .u32 us, .int .u8 f, .int .u64 sq, .int .u16 ec, .int .u16 rrc, .slice ac nc cc]
  have ALL : ∀ w', Keep ((w.alloc (.cells #[.int .i32 e, .slice ao n co] 43)).alloc (.cells #[.int .u32 us, .int .u8 f, .int .u64 sq, .int .u16 ec, .int .u16 rrc, .slice ac nc cc] 46)) w' → (w'.cell? ⟨w.heap.size, 0, none⟩ = some (.int .i32 e) ∧ w'.cell? ⟨w.heap.size, 1, none⟩ = some (.slice ao n co) ∧ w'.cell? ⟨w.heap.size + 1, 0, none⟩ = some (.int .u32 us) ∧ w'.cell? ⟨w.heap.size + 1, 1, none⟩ = some (.int .u8 f) ∧ w'.cell? ⟨w.heap.size + 1, 2, none⟩ = some (.int .u64 sq) ∧ w'.cell? ⟨w.heap.size + 1, 3, none⟩ = some (.int .u16 ec) ∧ w'.cell? ⟨w.heap.size + 1, 4, none⟩ = some (.int .u16 rrc) ∧ w'.cell? ⟨w.heap.size + 1, 5, none⟩ = some (.slice ac nc cc)) := fun W K => by
    have B1 := AK.keep K
    have B2 := AS.keep K
    exact ⟨B1.cell 0, B1.cell 1, B2.cell 0, B2.cell 1, B2.cell 2, B2.cell 3, B2.cell 4, B2.cell 5⟩
  have LO := fun W (K : Keep w W) => lengthOf_c g am nm cm W hnm (K.cell hc)
  generalize lof nm = ln at *
  go_enter Tryz.func36, Tryz.ntmps36
  go_wp2_with fail
  refine (LO _ K0).mono ?_
  rintro x w1 ⟨rfl, k1⟩
  obtain ⟨h1, h2, h3, h4, h5, h6, h7, h8⟩ := ALL w1 k1
  go_wp2_with fail
  refine (HP _).mono ?_
  rintro x w2 ⟨rfl, k2⟩
  go_wp2
  go_ret2
  exact ⟨rfl, (K0.trans (k1.trans k2)).alloc _⟩
set_option maxHeartbeats 2000000 in
theorem mic_ref (dv : Value) (e : Int) (ao : Option Addr) (n co q : Nat) (us f sq ec rrc : Nat) (ac : Option Addr) (nc cc : Nat) (am : Option Addr) (nm cm : Nat) (w : World) (hq0 : q ≠ 0) (hnm : nm ≤ 1000000000)
    (HP : ∀ W, Calls Tryz.prog 47 #[.agg #[.int .i32 e, .slice ao n co], .agg #[.int .u32 us, .int .u8 f, .int .u64 sq, .int .u16 ec, .int .u16 rrc, .slice ac nc cc], .int .i64 (lof nm)] W fun x w' => x = .returned (.tuple #[.agg #[.int .i64 0, .int .i64 0, .int .i64 0], .int .i64 q]) ∧ Keep W w') :
    Calls Tryz.prog 18 #[dv, .agg #[.int .i32 e, .slice ao n co], .agg #[.int .u32 us, .int .u8 f, .int .u64 sq, .int .u16 ec, .int .u16 rrc, .slice ac nc cc], .slice am nm cm] w fun x w' => x = .returned (.tuple #[dv, .int .i64 q]) ∧ Keep w w' := by
  have K0 := (((Keep.refl w).alloc (.cells #[.int .i32 e, .slice ao n co] 43)).alloc (.cells #[.int .u32 us, .int .u8 f, .int .u64 sq, .int .u16 ec, .int .u16 rrc, .slice ac nc cc] 46)).alloc (.cells #[.slice am nm cm] 26)
  have A0 := new3 w (.cells #[.int .i32 e, .slice ao n co] 43) (.cells #[.int .u32 us, .int .u8 f, .int .u64 sq, .int .u16 ec, .int .u16 rrc, .slice ac nc cc] 46) 26 [.slice am nm cm]
  go_enter Tryz.func18, Tryz.ntmps18
  go_wp2_with fail
  refine (micParts_ref dv e ao n co q us f sq ec rrc ac nc cc (w.heap.size + 1 + 1) am nm cm _ hq0 hnm (A0.cell 0) HP).mono ?_
  rintro x w1 ⟨rfl, k1⟩
  go_wp2
  go_ret2
  exact ⟨rfl, K0.trans k1⟩
end Go.Proofs.Qxb6500771aGreat
