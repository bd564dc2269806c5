/- Unwrap, VerifyMIC: what they answer when they refuse by the key; Served; the outcomes' status. -/
import Derived.Test.Qxb6500771aGreatTlC
namespace Go.Proofs.Qxb6500771aGreat
open Go.RowKit Go.Qm
set_option linter.unusedVariables false
set_option linter.unusedSimpArgs false
attribute [local go_sem ↓] Go.wp_at_zero Go.wp_at_succ

def zpl : List Value := [.int .u16 0, .int .u8 0, .int .u16 0, .int .u16 0, .int .u64 0, .int .i64 0]
def zhd : List Value := [.int .u16 0, .int .u8 0, .int .u16 0, .int .u16 0, .int .u64 0]
theorem s77 : (Tryz.prog.info? 77).map (·.size) = some 6 := by kernel_rfl
theorem s56 : (Tryz.prog.info? 56).map (·.size) = some 5 := by kernel_rfl
theorem planUnwrap_key (e : Int) (ao : Option Addr) (n co q us : Nat) (fa : Bool) (tv : Value) (w : World) (hq0 : q ≠ 0) (HK : ∀ W, Calls Tryz.prog 49 #[.agg #[.int .i32 e, .slice ao n co]] W fun x w' => x = .returned (.tuple #[.agg #[.int .i64 0, .int .i64 0, .int .i64 0], .int .i64 q]) ∧ Keep W w') :
    Calls Tryz.prog 38 #[.agg #[.int .i32 e, .slice ao n co], .agg #[.int .u32 us, .bool fa], tv] w fun x w' => x = .returned (.tuple #[.agg #[.int .u16 0, .int .u8 0, .int .u16 0, .int .u16 0, .int .u64 0, .int .i64 0], .int .i64 q]) ∧ Keep w w' := by
  have A0 := new3 w (.cells #[.int .i32 e, .slice ao n co] 43) (.cells #[.int .u32 us, .bool fa] 53) 77 zpl
  have K0 := (((Keep.refl w).alloc (.cells #[.int .i32 e, .slice ao n co] 43)).alloc (.cells #[.int .u32 us, .bool fa] 53)).alloc (.cells zpl.toArray 77)
  have yq : ((q : Int) != 0) = true := bne_t (by omega)
  go_enter Tryz.func38, Tryz.ntmps38
  go_wp2_with fail
  refine (HK _).mono ?_
  rintro x w1 ⟨rfl, k1⟩
  have KB := (Keep.refl w1).alloc (.cells #[.int .i64 0, .int .i64 0, .int .i64 0] 69)
  have A1 := (A0.keep k1).keep KB
  have K1 := (K0.trans k1).trans KB
  go_wp2_with (refine wpList_store_rowN (by rfl) 77 (.tmp 6) (.tmp 19) (by rfl) (w.heap.size + 1 + 1) zpl.toArray (by rfl) (by rfl) 6 77 _ A1 s77 (by rfl) (by rfl) (by simp [zpl, Value.oneCell']) ?_)
  have AR := A1.row zpl
  have r0 := AR.cell 0
  have r1 := AR.cell 1
  have r2 := AR.cell 2
  have r3 := AR.cell 3
  have r4 := AR.cell 4
  have r5 := AR.cell 5
  simp only [zpl, List.getElem?_cons_zero, List.getElem?_cons_succ] at r0 r1 r2 r3 r4 r5
  refine bodyPost_ret (v := .tuple #[.agg #[.int .u16 0, .int .u8 0, .int .u16 0, .int .u16 0, .int .u64 0, .int .i64 0], .int .i64 q]) (by simp [results, Tryz.results38, go_sem, zpl, r0, r1, r2, r3, r4, r5]) rfl ⟨rfl, K1.setRow (by omega) _⟩
theorem unwrap_ref (dv : Value) (e : Int) (ao : Option Addr) (n co q us : Nat) (fa : Bool) (tv : Value) (w : World) (hq0 : q ≠ 0) (HK : ∀ W, Calls Tryz.prog 49 #[.agg #[.int .i32 e, .slice ao n co]] W fun x w' => x = .returned (.tuple #[.agg #[.int .i64 0, .int .i64 0, .int .i64 0], .int .i64 q]) ∧ Keep W w') :
    Calls Tryz.prog 24 #[dv, .agg #[.int .i32 e, .slice ao n co], .agg #[.int .u32 us, .bool fa], tv] w fun x w' => x = .returned (.tuple #[dv, .agg #[.int .u16 0, .int .u8 0, .int .u16 0, .int .u16 0, .int .u64 0], .int .i64 q]) ∧ Keep w w' := by
  have A0 := new3 w (.cells #[.int .i32 e, .slice ao n co] 43) (.cells #[.int .u32 us, .bool fa] 53) 56 zhd
  have K0 := (((Keep.refl w).alloc (.cells #[.int .i32 e, .slice ao n co] 43)).alloc (.cells #[.int .u32 us, .bool fa] 53)).alloc (.cells zhd.toArray 56)
  have yq : ((q : Int) != 0) = true := bne_t (by omega)
  go_enter Tryz.func24, Tryz.ntmps24
  go_wp2_with fail
  refine (planUnwrap_key e ao n co q us fa tv _ hq0 HK).mono ?_
  rintro x w1 ⟨rfl, k1⟩
  have KB := (Keep.refl w1).alloc (.cells #[.int .u16 0, .int .u8 0, .int .u16 0, .int .u16 0, .int .u64 0, .int .i64 0] 77)
  have A1 := (A0.keep k1).keep KB
  have K1 := (K0.trans k1).trans KB
  go_wp2_with (refine wpList_store_rowN (by rfl) 56 (.tmp 9) (.tmp 25) (by rfl) (w.heap.size + 1 + 1) zhd.toArray (by rfl) (by rfl) 5 56 _ A1 s56 (by rfl) (by rfl) (by simp [zhd, Value.oneCell']) ?_)
  have AR := A1.row zhd
  have r0 := AR.cell 0
  have r1 := AR.cell 1
  have r2 := AR.cell 2
  have r3 := AR.cell 3
  have r4 := AR.cell 4
  simp only [zhd, List.getElem?_cons_zero, List.getElem?_cons_succ] at r0 r1 r2 r3 r4
  refine bodyPost_ret (v := .tuple #[dv, .agg #[.int .u16 0, .int .u8 0, .int .u16 0, .int .u16 0, .int .u64 0], .int .i64 q]) (by simp [results, Tryz.results24, go_sem, zhd, r0, r1, r2, r3, r4]) rfl ⟨rfl, K1.setRow (by omega) _⟩
theorem verifyParts_ref (e : Int) (ao : Option Addr) (n co q us : Nat) (fa : Bool) (tv pv : Value) (w : World) (hq0 : q ≠ 0) (HK : ∀ W, Calls Tryz.prog 49 #[.agg #[.int .i32 e, .slice ao n co]] W fun x w' => x = .returned (.tuple #[.agg #[.int .i64 0, .int .i64 0, .int .i64 0], .int .i64 q]) ∧ Keep W w') :
    Calls Tryz.prog 42 #[.agg #[.int .i32 e, .slice ao n co], .agg #[.int .u32 us, .bool fa], tv, pv] w fun x w' => x = .returned (.tuple #[.agg #[.int .u16 0, .int .u8 0, .int .u16 0, .int .u16 0, .int .u64 0], .int .i64 q]) ∧ Keep w w' := by
  have A0 := new3 w (.cells #[.int .i32 e, .slice ao n co] 43) (.cells #[.int .u32 us, .bool fa] 53) 56 zhd
  have K0 := (((Keep.refl w).alloc (.cells #[.int .i32 e, .slice ao n co] 43)).alloc (.cells #[.int .u32 us, .bool fa] 53)).alloc (.cells zhd.toArray 56)
  have yq : ((q : Int) != 0) = true := bne_t (by omega)
  go_enter Tryz.func42, Tryz.ntmps42
  go_wp2_with fail
  refine (HK _).mono ?_
  rintro x w1 ⟨rfl, k1⟩
  have KB := (Keep.refl w1).alloc (.cells #[.int .i64 0, .int .i64 0, .int .i64 0] 69)
  have A1 := (A0.keep k1).keep KB
  have K1 := (K0.trans k1).trans KB
  go_wp2_with (refine wpList_store_rowN (by rfl) 56 (.tmp 8) (.tmp 23) (by rfl) (w.heap.size + 1 + 1) zhd.toArray (by rfl) (by rfl) 5 56 _ A1 s56 (by rfl) (by rfl) (by simp [zhd, Value.oneCell']) ?_)
  have AR := A1.row zhd
  have r0 := AR.cell 0
  have r1 := AR.cell 1
  have r2 := AR.cell 2
  have r3 := AR.cell 3
  have r4 := AR.cell 4
  simp only [zhd, List.getElem?_cons_zero, List.getElem?_cons_succ] at r0 r1 r2 r3 r4
  refine bodyPost_ret (v := .tuple #[.agg #[.int .u16 0, .int .u8 0, .int .u16 0, .int .u16 0, .int .u64 0], .int .i64 q]) (by simp [results, Tryz.results42, go_sem, zhd, r0, r1, r2, r3, r4]) rfl ⟨rfl, K1.setRow (by omega) _⟩
theorem verify_ref (e : Int) (ao : Option Addr) (n co q us : Nat) (fa : Bool) (tv : Value) (am : Option Addr) (nm cm : Nat) (w : World) (hq0 : q ≠ 0) (HK : ∀ W, Calls Tryz.prog 49 #[.agg #[.int .i32 e, .slice ao n co]] W fun x w' => x = .returned (.tuple #[.agg #[.int .i64 0, .int .i64 0, .int .i64 0], .int .i64 q]) ∧ Keep W w') :
    Calls Tryz.prog 25 #[.agg #[.int .i32 e, .slice ao n co], .agg #[.int .u32 us, .bool fa], tv, .slice am nm cm] w fun x w' => x = .returned (.tuple #[.agg #[.int .u16 0, .int .u8 0, .int .u16 0, .int .u16 0, .int .u64 0], .int .i64 q]) ∧ Keep w w' := by
  have A0 := (new3 w (.cells #[.int .i32 e, .slice ao n co] 43) (.cells #[.int .u32 us, .bool fa] 53) 56 zhd).keep ((Keep.refl _).alloc (.cells #[.slice am nm cm] 26))
  have K0 := ((((Keep.refl w).alloc (.cells #[.int .i32 e, .slice ao n co] 43)).alloc (.cells #[.int .u32 us, .bool fa] 53)).alloc (.cells zhd.toArray 56)).alloc (.cells #[.slice am nm cm] 26)
  go_enter Tryz.func25, Tryz.ntmps25
  go_wp2_with fail
  refine (verifyParts_ref e ao n co q us fa tv _ _ hq0 HK).mono ?_
  rintro x w1 ⟨rfl, k1⟩
  have A1 := A0.keep k1
  have K1 := K0.trans k1
  go_wp2_with (refine wpList_store_rowN (by rfl) 56 (.tmp 8) (.tmp 16) (by rfl) (w.heap.size + 1 + 1) zhd.toArray (by rfl) (by rfl) 5 56 _ A1 s56 (by rfl) (by rfl) (by simp [zhd, Value.oneCell']) ?_)
  have AR := A1.row zhd
  have r0 := AR.cell 0
  have r1 := AR.cell 1
  have r2 := AR.cell 2
  have r3 := AR.cell 3
  have r4 := AR.cell 4
  simp only [zhd, List.getElem?_cons_zero, List.getElem?_cons_succ] at r0 r1 r2 r3 r4
  refine bodyPost_ret (v := .tuple #[.agg #[.int .u16 0, .int .u8 0, .int .u16 0, .int .u16 0, .int .u64 0], .int .i64 q]) (by simp [results, Tryz.results25, go_sem, zhd, r0, r1, r2, r3, r4]) rfl ⟨rfl, K1.setRow (by omega) _⟩
theorem served_yes (e : Int) (w : World) (h : srv e) : Calls Tryz.prog 21 #[.int .i32 e] w fun x w' => x = .returned (.bool true) ∧ w' = w := by
  unfold srv at h
  rcases h with rfl | rfl | rfl | rfl | rfl | rfl
  all_goals
    go_enter Tryz.func21, Tryz.ntmps21
    go_wp2
    go_ret
    exact ⟨rfl, rfl⟩
theorem served_no (e : Int) (w : World) (h : ¬ srv e) : Calls Tryz.prog 21 #[.int .i32 e] w fun x w' => x = .returned (.bool false) ∧ w' = w := by
  have hh : (e == 17) = false ∧ (e == 18) = false ∧ (e == 19) = false ∧ (e == 20) = false ∧ (e == 25) = false ∧ (e == 26) = false := by
    unfold srv at h
    refine ⟨?_, ?_, ?_, ?_, ?_, ?_⟩ <;> (simp; omega)
  obtain ⟨y1, y2, y3, y4, y5, y6⟩ := hh
  go_enter Tryz.func21, Tryz.ntmps21
  go_wp2
  go_ret
  exact ⟨rfl, rfl⟩
theorem major1_c (w : World) : Calls Tryz.prog 26 #[.int .i64 1] w fun x w' => x = .returned (.int .u32 851968) ∧ w' = w := by
  go_enter Tryz.func26, Tryz.ntmps26
  go_wp2
  go_ret
  exact ⟨rfl, rfl⟩
theorem major2_c (w : World) : Calls Tryz.prog 26 #[.int .i64 2] w fun x w' => x = .returned (.int .u32 851968) ∧ w' = w := by
  go_enter Tryz.func26, Tryz.ntmps26
  go_wp2
  go_ret
  exact ⟨rfl, rfl⟩
end Go.Proofs.Qxb6500771aGreat
