/- unionvfs: Look. -/
import Derived.Test.Qxb6500767aFq
namespace Go.Proofs.Qxb6500767a
open Go.RowKit Go.Qm
set_option linter.unusedVariables false
set_option linter.unusedSimpArgs false
attribute [local go_sem ↓] Go.wp_at_zero Go.wp_at_succ
theorem s48 : (Try.prog.info? 48).map (·.size) = some 6 := by kernel_rfl
structure Vw where
  opn : Bool
  node : Nat
  flags : Int
  dir : Bool
  off : Nat
  cur : List UInt8
def vw0 : Vw := ⟨false, 0, 0, false, 0, []⟩
def vwC (x : Vw) : List Value := [.bool x.opn, .int .i64 (x.node : Nat), .int .i64 x.flags, .bool x.dir, .int .i64 (x.off : Nat), str x.cur]
def lookF (u : Nat) (hs : List Hd) (h : Int) : Vw := if opn u h = true then ⟨true, (hat hs h.toNat).node, (hat hs h.toNat).flags, (hat hs h.toNat).dir, (hat hs h.toNat).off, (hat hs h.toNat).cur⟩ else vw0
theorem and_zero (f : Int) : bits .and .i64 f 0 = 0 := by
  show IntKind.i64.wrap ((BitVec.ofInt 64 f &&& BitVec.ofInt 64 0).toNat : Int) = 0
  have : BitVec.ofInt 64 f &&& BitVec.ofInt 64 0 = 0 := by simp
  rw [this]; rfl
theorem getOK_zero (u : Nat) (hs : List Hd) (h : Int) : getOK u hs h 0 = opn u h := by unfold getOK; rw [and_zero]; simp
set_option maxRecDepth 3000 in
set_option maxHeartbeats 4000000 in
theorem vLook_c (gf gt u : Nat) (h : Int) (hs : List Hd) (w : World) (hf : FSW w gf gt u hs) :
    Calls Try.prog 22 #[.pointer (some ⟨gf, 0, none⟩), .int .i64 h] w fun e w' => e = .returned (.agg (vwC (lookF u hs h)).toArray) ∧ Keep w w' := by
  have K0 := (Keep.refl w).alloc (.cells #[.bool false, .int .i64 0, .int .i64 0, .bool false, .int .i64 0, str []] 48)
  have A0 : Arr (w.alloc (.cells #[.bool false, .int .i64 0, .int .i64 0, .bool false, .int .i64 0, str []] 48)) w.heap.size 48 [.bool false, .int .i64 0, .int .i64 0, .bool false, .int .i64 0, str []] := Arr.new w 48 _
  have GC := get_c gf gt u hs h 0 _ (hf.keep K0)
  obtain ⟨R, hR⟩ : ∃ R, R = lookF u hs h := ⟨_, rfl⟩
  rw [← hR]
  unfold lookF at hR
  unfold getV at GC
  rw [getOK_zero] at GC
  cases hok : opn u h with
  | false =>
    rw [if_neg (by rw [hok]; decide)] at hR
    rw [if_neg (by rw [hok]; decide)] at GC
    have HV := Hid.mk hR
    have HA0 := Hid.mk A0
    clear A0 hR hok hf
    go_enter Try.func22, Try.ntmps22
    go_wp2_with fail
    refine GC.mono ?_
    rintro e w0 ⟨rfl, hw0⟩
    rw [← hw0] at HA0 K0
    clear hw0 GC
    have A0 := HA0.out
    have a0 := A0.cell 0
    have a1 := A0.cell 1
    have a2 := A0.cell 2
    have a3 := A0.cell 3
    have a4 := A0.cell 4
    have a5 := A0.cell 5
    have f0 := A0.frozen 0
    have f1 := A0.frozen 1
    have f2 := A0.frozen 2
    have f3 := A0.frozen 3
    have f4 := A0.frozen 4
    have f5 := A0.frozen 5
    simp only [List.getElem?_cons_zero, List.getElem?_cons_succ] at a0 a1 a2 a3 a4 a5
    have A3 := (((((A0.set 0 (.bool false)).set 1 (.int .i64 0)).set 2 (.int .i64 0)).set 3 (.bool false)).set 4 (.int .i64 0)).set 5 (str [])
    have K3 := (((((K0.setCell (p := ⟨w.heap.size, 0, none⟩) (Nat.le_refl _) (.bool false)).setCell (p := ⟨w.heap.size, 1, none⟩) (Nat.le_refl _) (.int .i64 0)).setCell (p := ⟨w.heap.size, 2, none⟩) (Nat.le_refl _) (.int .i64 0)).setCell (p := ⟨w.heap.size, 3, none⟩) (Nat.le_refl _) (.bool false)).setCell (p := ⟨w.heap.size, 4, none⟩) (Nat.le_refl _) (.int .i64 0)).setCell (p := ⟨w.heap.size, 5, none⟩) (Nat.le_refl _) (str [])
    simp only [List.set_cons_zero, List.set_cons_succ] at A3
    have HA3 := Hid.mk A3
    have HK3 := Hid.mk K3
    clear A3 K3 A0
    go_wp2_with fail
    refine bodyPost_ret (v := .agg (vwC vw0).toArray) (results_cell_row1 rfl _ _ w.heap.size 48 _ (0, 0) _ rfl HA3.out Try.underlying48 rfl s48) rfl ⟨?_, HK3.out⟩
    rw [HV.out]
  | true =>
    rw [if_pos hok] at hR GC
    obtain ⟨n, rfl, hn, htb⟩ : ∃ n : Nat, h = (n : Int) ∧ n < 32 ∧ u.testBit n = true := getOK_lt (hs := hs) (need := 0) (by rw [getOK_zero]; exact hok)
    rw [Int.toNat_natCast] at GC hR
    have HF := Hid.mk (fun W (hk : Keep w W) => (hf.keep hk).cell hn)
    generalize (hat hs n).node = nd at *
    generalize (hat hs n).flags = fl at *
    generalize (hat hs n).dir = dr at *
    generalize (hat hs n).off = of' at *
    generalize (hat hs n).cur = cu at *
    have HV := Hid.mk hR
    have HA0 := Hid.mk A0
    clear hR hok hf A0
    go_enter Try.func22, Try.ntmps22
    go_wp2_with fail
    refine GC.mono ?_
    rintro e w0 ⟨rfl, hw0⟩
    rw [← hw0] at K0 HA0
    clear hw0 GC
    go_upto_region 4 with fail
    have CS := HF.out _ K0
    have A0 := HA0.out
    have a0 := A0.cell 0
    have a1 := A0.cell 1
    have a2 := A0.cell 2
    have a3 := A0.cell 3
    have a4 := A0.cell 4
    have a5 := A0.cell 5
    have f0 := A0.frozen 0
    have f1 := A0.frozen 1
    have f2 := A0.frozen 2
    have f3 := A0.frozen 3
    have f4 := A0.frozen 4
    have f5 := A0.frozen 5
    simp only [List.getElem?_cons_zero, List.getElem?_cons_succ] at a0 a1 a2 a3 a4 a5
    have A3 := ((((((A0.set 0 (.bool true)).set 1 (.int .i64 (nd : Nat))).set 2 (.int .i64 fl)).set 3 (.bool dr)).set 4 (.int .i64 (of' : Nat))).set 5 (.string ⟨cu.toArray⟩)).drew
    have K3 := ((((((K0.setCell (p := ⟨w.heap.size, 0, none⟩) (Nat.le_refl _) (.bool true)).setCell (p := ⟨w.heap.size, 1, none⟩) (Nat.le_refl _) (.int .i64 (nd : Nat))).setCell (p := ⟨w.heap.size, 2, none⟩) (Nat.le_refl _) (.int .i64 fl)).setCell (p := ⟨w.heap.size, 3, none⟩) (Nat.le_refl _) (.bool dr)).setCell (p := ⟨w.heap.size, 4, none⟩) (Nat.le_refl _) (.int .i64 (of' : Nat))).setCell (p := ⟨w.heap.size, 5, none⟩) (Nat.le_refl _) (.string ⟨cu.toArray⟩)).drew
    simp only [List.set_cons_zero, List.set_cons_succ] at A3
    have HA3 := Hid.mk A3
    have HK3 := Hid.mk K3
    clear A3 K3 A0
    go_region_held3 (fun W => W.cell? ⟨gf, 2 + n * 5, none⟩ = some (.int .i64 (nd : Nat)) ∧ W.cell? ⟨gf, 2 + n * 5 + 1, none⟩ = some (.int .i64 fl) ∧ W.cell? ⟨gf, 2 + n * 5 + 2, none⟩ = some (.bool dr) ∧ W.cell? ⟨gf, 2 + n * 5 + 3, none⟩ = some (.int .i64 (of' : Nat)) ∧ W.cell? ⟨gf, 2 + n * 5 + 4, none⟩ = some (str cu))
      (with_reducible first | assumption | exact CS | exact HF.out _ K0.drew | exact HF.out _ HK3.out)
      (fail)
    go_wp2_with fail
    refine bodyPost_ret (v := .agg (vwC ⟨true, nd, fl, dr, of', cu⟩).toArray) (results_cell_row1 rfl _ _ w.heap.size 48 _ (0, 0) _ rfl HA3.out Try.underlying48 rfl s48) rfl ⟨?_, HK3.out⟩
    rw [HV.out]
end Go.Proofs.Qxb6500767a
