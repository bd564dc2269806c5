/- checkKey, planWrap, WrapParts, Wrap, planMIC, MICParts, MIC: the ways by which they refuse. -/
import Derived.Test.Qxb6500771aGreatTmA
namespace Go.Proofs.Qxb6500771aGreat
open Go.RowKit Go.Qm
set_option linter.unusedVariables false
set_option linter.unusedSimpArgs false
attribute [local go_sem ↓] Go.wp_at_zero Go.wp_at_succ

def zer3 : List Value := [.int .i64 0, .int .i64 0, .int .i64 0]
theorem new2 (w : World) (o : Obj) (t : TypeId) (cs : List Value) : Arr ((w.alloc o).alloc (.cells cs.toArray t)) (w.heap.size + 1) t cs := by
  have := Arr.new (w.alloc o) t cs
  rw [World.size_alloc] at this
  exact this
theorem new3 (w : World) (o o' : Obj) (t : TypeId) (cs : List Value) : Arr (((w.alloc o).alloc o').alloc (.cells cs.toArray t)) (w.heap.size + 1 + 1) t cs := by
  have := new2 (w.alloc o) o' t cs
  rw [World.size_alloc] at this
  exact this
set_option maxHeartbeats 1000000 in
theorem checkKey_bad (e : Int) (ao : Option Addr) (n co q : Nat) (w : World) (hn : n ≤ 1000000) (hq : (¬ srv e ∧ q = 1) ∨ (srv e ∧ n ≠ kl e ∧ q = 2)) :
    Calls Tryz.prog 49 #[.agg #[.int .i32 e, .slice ao n co]] w fun x w' => x = .returned (.tuple #[.agg #[.int .i64 0, .int .i64 0, .int .i64 0], .int .i64 q]) ∧ Keep w w' := by
  have A0 := new2 w (.cells #[.int .i32 e, .slice ao n co] 43) 69 zer3
  have K0 := ((Keep.refl w).alloc (.cells #[.int .i32 e, .slice ao n co] 43)).alloc (.cells zer3.toArray 69)
  have kle := kl_le e
  rcases hq with ⟨hs, rfl⟩ | ⟨hs, hne, rfl⟩
  · go_enter Tryz.func49, Tryz.ntmps49
    go_wp2_with fail
    refine (sizesOf_bad e _ hs).mono ?_
    rintro x w1 ⟨rfl, k1⟩
    have A1 := (A0.keep k1).keep ((Keep.refl w1).alloc (.cells #[.int .i64 0, .int .i64 0, .int .i64 0] 69))
    have K1 := (K0.trans k1).alloc (.cells #[.int .i64 0, .int .i64 0, .int .i64 0] 69)
    go_wp2_with (refine wpList_store_rowN (by rfl) 69 (.tmp 2) (.tmp 14) (by rfl) (w.heap.size + 1) zer3.toArray (by rfl) (by rfl) 3 69 _ A1 s69 (by rfl) (by rfl) (by simp [zer3, Value.oneCell']) ?_)
    have AR := A1.row zer3
    have r0 := AR.cell 0
    have r1 := AR.cell 1
    have r2 := AR.cell 2
    simp only [zer3, List.getElem?_cons_zero, List.getElem?_cons_succ] at r0 r1 r2
    refine bodyPost_ret (v := .tuple #[.agg #[.int .i64 0, .int .i64 0, .int .i64 0], .int .i64 1]) (by simp [results, Tryz.results49, go_sem, zer3, r0, r1, r2]) rfl ⟨rfl, K1.setRow (by omega) _⟩
  · have C1 : ((n : Int) != (kl e : Int)) = true := bne_t (by omega)
    have SO := fun W => sizesOf_ok e W hs
    generalize kl e = a at *
    generalize cl e = b at *
    go_enter Tryz.func49, Tryz.ntmps49
    go_wp2_with fail
    refine (SO _).mono ?_
    rintro x w1 ⟨rfl, k1⟩
    have KEY : w1.cell? ⟨w.heap.size, 1, none⟩ = some (.slice ao n co) := by
      have h0 : Arr (w.alloc (.cells [.int .i32 e, .slice ao n co].toArray 43)) w.heap.size 43 [.int .i32 e, .slice ao n co] := Arr.new w 43 _
      exact ((h0.keep ((Keep.refl _).alloc (.cells zer3.toArray 69))).keep k1).cell 1
    have A1 := (A0.keep k1).keep ((Keep.refl w1).alloc (.cells #[.int .i64 a, .int .i64 16, .int .i64 b] 69))
    have K1 := (K0.trans k1).alloc (.cells #[.int .i64 a, .int .i64 16, .int .i64 b] 69)
    have KEY1 := ((Keep.refl w1).alloc (.cells #[.int .i64 a, .int .i64 16, .int .i64 b] 69)).cell KEY
    go_wp2_with (refine wpList_store_rowN (by rfl) 69 (.tmp 2) (.tmp 22) (by rfl) (w.heap.size + 1) zer3.toArray (by rfl) (by rfl) 3 69 _ A1 s69 (by rfl) (by rfl) (by simp [zer3, Value.oneCell']) ?_)
    have AR := A1.row zer3
    have r0 := AR.cell 0
    have r1 := AR.cell 1
    have r2 := AR.cell 2
    simp only [zer3, List.getElem?_cons_zero, List.getElem?_cons_succ] at r0 r1 r2
    refine bodyPost_ret (v := .tuple #[.agg #[.int .i64 0, .int .i64 0, .int .i64 0], .int .i64 2]) (by simp [results, Tryz.results49, go_sem, zer3, r0, r1, r2]) rfl ⟨rfl, K1.setRow (by omega) _⟩
set_option maxHeartbeats 1000000 in
theorem checkKey_ok (e : Int) (ao : Option Addr) (n co : Nat) (w : World) (hs : srv e) (hn : n = kl e) :
    Calls Tryz.prog 49 #[.agg #[.int .i32 e, .slice ao n co]] w fun x w' => x = .returned (.tuple #[.agg #[.int .i64 (kl e), .int .i64 16, .int .i64 (cl e)], .int .i64 0]) ∧ Keep w w' := by
  have A0 := new2 w (.cells #[.int .i32 e, .slice ao n co] 43) 69 zer3
  have K0 := ((Keep.refl w).alloc (.cells #[.int .i32 e, .slice ao n co] 43)).alloc (.cells zer3.toArray 69)
  have C1 : ((n : Int) != (kl e : Int)) = false := bne_f (by omega)
  have SO := fun W => sizesOf_ok e W hs
  clear hn
  generalize kl e = a at *
  generalize cl e = b at *
  go_enter Tryz.func49, Tryz.ntmps49
  go_wp2_with fail
  refine (SO _).mono ?_
  rintro x w1 ⟨rfl, k1⟩
  have KEY : w1.cell? ⟨w.heap.size, 1, none⟩ = some (.slice ao n co) := by
    have h0 : Arr (w.alloc (.cells [.int .i32 e, .slice ao n co].toArray 43)) w.heap.size 43 [.int .i32 e, .slice ao n co] := Arr.new w 43 _
    exact ((h0.keep ((Keep.refl _).alloc (.cells zer3.toArray 69))).keep k1).cell 1
  have A1 := (A0.keep k1).keep ((Keep.refl w1).alloc (.cells #[.int .i64 a, .int .i64 16, .int .i64 b] 69))
  have K1 := (K0.trans k1).alloc (.cells #[.int .i64 a, .int .i64 16, .int .i64 b] 69)
  have KEY1 := ((Keep.refl w1).alloc (.cells #[.int .i64 a, .int .i64 16, .int .i64 b] 69)).cell KEY
  go_wp2_with (refine wpList_store_rowN (by rfl) 69 (.tmp 2) (.tmp 23) (by rfl) (w.heap.size + 1) [.int .i64 a, .int .i64 16, .int .i64 b].toArray (by rfl) (by rfl) 3 69 _ A1 s69 (by rfl) (by rfl) (by simp [Value.oneCell']) ?_)
  have AR := A1.row [.int .i64 a, .int .i64 16, .int .i64 b]
  have r0 := AR.cell 0
  have r1 := AR.cell 1
  have r2 := AR.cell 2
  simp only [List.getElem?_cons_zero, List.getElem?_cons_succ] at r0 r1 r2
  refine bodyPost_ret (v := .tuple #[.agg #[.int .i64 a, .int .i64 16, .int .i64 b], .int .i64 0]) (by simp [results, Tryz.results49, go_sem, r0, r1, r2]) rfl ⟨rfl, K1.setRow (by omega) _⟩

def zer6 : List Value := [.int .i64 0, .int .i64 0, .int .i64 0, .bool false, .int .i64 0, .int .i64 0]
theorem sz87 : (Tryz.prog.info? 87).map (·.size) = some 6 := by kernel_rfl
theorem planWrap_key (e : Int) (ao : Option Addr) (n co q : Nat) (us f sq ec rrc : Nat) (ac : Option Addr) (nc cc : Nat) (m : Int) (w : World) (hq0 : q ≠ 0) (HK : ∀ W, Calls Tryz.prog 49 #[.agg #[.int .i32 e, .slice ao n co]] W fun x w' => x = .returned (.tuple #[.agg #[.int .i64 0, .int .i64 0, .int .i64 0], .int .i64 q]) ∧ Keep W w') :
    Calls Tryz.prog 44 #[.agg #[.int .i32 e, .slice ao n co], .agg #[.int .u32 us, .int .u8 f, .int .u64 sq, .int .u16 ec, .int .u16 rrc, .slice ac nc cc], .int .i64 m] w fun x w' => x = .returned (.tuple #[.agg #[.int .i64 0, .int .i64 0, .int .i64 0, .bool false, .int .i64 0, .int .i64 0], .int .i64 q]) ∧ Keep w w' := by
  have A0 := new3 w (.cells #[.int .i32 e, .slice ao n co] 43) (.cells #[.int .u32 us, .int .u8 f, .int .u64 sq, .int .u16 ec, .int .u16 rrc, .slice ac nc cc] 46) 87 zer6
  have K0 := (((Keep.refl w).alloc (.cells #[.int .i32 e, .slice ao n co] 43)).alloc (.cells #[.int .u32 us, .int .u8 f, .int .u64 sq, .int .u16 ec, .int .u16 rrc, .slice ac nc cc] 46)).alloc (.cells zer6.toArray 87)
  have yq : ((q : Int) != 0) = true := bne_t (by omega)
  go_enter Tryz.func44, Tryz.ntmps44
  go_wp2_with fail
  refine (HK _).mono ?_
  rintro x w1 ⟨rfl, k1⟩
  have A1 := (A0.keep k1).keep ((Keep.refl w1).alloc (.cells #[.int .i64 0, .int .i64 0, .int .i64 0] 69))
  have K1 := (K0.trans k1).alloc (.cells #[.int .i64 0, .int .i64 0, .int .i64 0] 69)
  go_wp2_with (refine wpList_store_rowN (by rfl) 87 (.tmp 6) (.tmp 18) (by rfl) (w.heap.size + 1 + 1) zer6.toArray (by rfl) (by rfl) 6 87 _ A1 sz87 (by rfl) (by rfl) (by simp [zer6, Value.oneCell']) ?_)
  have AR := A1.row zer6
  have r0 := AR.cell 0
  have r1 := AR.cell 1
  have r2 := AR.cell 2
  have r3 := AR.cell 3
  have r4 := AR.cell 4
  have r5 := AR.cell 5
  simp only [zer6, List.getElem?_cons_zero, List.getElem?_cons_succ] at r0 r1 r2 r3 r4 r5
  refine bodyPost_ret (v := .tuple #[.agg #[.int .i64 0, .int .i64 0, .int .i64 0, .bool false, .int .i64 0, .int .i64 0], .int .i64 q]) (by simp [results, Tryz.results44, go_sem, zer6, r0, r1, r2, r3, r4, r5]) rfl ⟨rfl, K1.setRow (by omega) _⟩
theorem planMIC_key (e : Int) (ao : Option Addr) (n co q : Nat) (us f sq ec rrc : Nat) (ac : Option Addr) (nc cc : Nat) (m : Int) (w : World) (hq0 : q ≠ 0) (HK : ∀ W, Calls Tryz.prog 49 #[.agg #[.int .i32 e, .slice ao n co]] W fun x w' => x = .returned (.tuple #[.agg #[.int .i64 0, .int .i64 0, .int .i64 0], .int .i64 q]) ∧ Keep W w') :
    Calls Tryz.prog 47 #[.agg #[.int .i32 e, .slice ao n co], .agg #[.int .u32 us, .int .u8 f, .int .u64 sq, .int .u16 ec, .int .u16 rrc, .slice ac nc cc], .int .i64 m] w fun x w' => x = .returned (.tuple #[.agg #[.int .i64 0, .int .i64 0, .int .i64 0], .int .i64 q]) ∧ Keep w w' := by
  have A0 := new3 w (.cells #[.int .i32 e, .slice ao n co] 43) (.cells #[.int .u32 us, .int .u8 f, .int .u64 sq, .int .u16 ec, .int .u16 rrc, .slice ac nc cc] 46) 69 zer3
  have K0 := (((Keep.refl w).alloc (.cells #[.int .i32 e, .slice ao n co] 43)).alloc (.cells #[.int .u32 us, .int .u8 f, .int .u64 sq, .int .u16 ec, .int .u16 rrc, .slice ac nc cc] 46)).alloc (.cells zer3.toArray 69)
  have yq : ((q : Int) != 0) = true := bne_t (by omega)
  go_enter Tryz.func47, Tryz.ntmps47
  go_wp2_with fail
  refine (HK _).mono ?_
  rintro x w1 ⟨rfl, k1⟩
  have A1 := (A0.keep k1).keep ((Keep.refl w1).alloc (.cells #[.int .i64 0, .int .i64 0, .int .i64 0] 69))
  have K1 := (K0.trans k1).alloc (.cells #[.int .i64 0, .int .i64 0, .int .i64 0] 69)
  go_wp2_with (refine wpList_store_rowN (by rfl) 69 (.tmp 6) (.tmp 18) (by rfl) (w.heap.size + 1 + 1) zer3.toArray (by rfl) (by rfl) 3 69 _ A1 s69 (by rfl) (by rfl) (by simp [zer3, Value.oneCell']) ?_)
  have AR := A1.row zer3
  have r0 := AR.cell 0
  have r1 := AR.cell 1
  have r2 := AR.cell 2
  simp only [zer3, List.getElem?_cons_zero, List.getElem?_cons_succ] at r0 r1 r2
  refine bodyPost_ret (v := .tuple #[.agg #[.int .i64 0, .int .i64 0, .int .i64 0], .int .i64 q]) (by simp [results, Tryz.results47, go_sem, zer3, r0, r1, r2]) rfl ⟨rfl, K1.setRow (by omega) _⟩
/-- The length of a message in one piece. -/
def lof (n : Nat) : Int := if n ≤ 1048576 then n else 1048577
theorem lengthOf_c (g : Nat) (a : Option Addr) (n c : Nat) (w : World) (hn : n ≤ 1000000000) (hc : w.cell? ⟨g, 0, none⟩ = some (.slice a n c)) :
    Calls Tryz.prog 45 #[.slice (some ⟨g, 0, none⟩) 1 1] w fun x w' => x = .returned (.int .i64 (lof n)) ∧ Keep w w' := by
  have hn' : (n : Int) ≤ 1000000000 := by omega
  by_cases h : n ≤ 1048576
  · have y : ¬ (n : Int) > 1048576 := by omega
    have hl : lof n = n := if_pos h
    rw [hl]
    clear hl h
    go_enter Tryz.func45, Tryz.ntmps45
    go_wp2_with fail
    go_loopw [3, 7] (fun nv iv wr => wr = w ∧ ((iv = .int .i64 0 ∧ nv = .int .i64 0) ∨ (iv = .int .i64 1 ∧ nv = .int .i64 n))) (fun _ iv _ => 1 - (intOf iv).toNat)
    case atStart => exact ⟨rfl, Or.inl ⟨rfl, rfl⟩⟩
    case round =>
      obtain ⟨rfl, ⟨rfl, rfl⟩ | ⟨rfl, rfl⟩⟩ := hrel
      · go_wp2_with fail
        go_roundw
        case rel => simp
        case measure => simp [intOf]
      · go_wp2_with fail
        go_ret
        exact ⟨rfl, Keep.refl _⟩
  · have y : (n : Int) > 1048576 := by omega
    have hl : lof n = 1048577 := if_neg h
    rw [hl]
    clear hl h
    go_enter Tryz.func45, Tryz.ntmps45
    go_wp2_with fail
    go_loopw [3, 7] (fun nv iv wr => wr = w ∧ iv = .int .i64 0 ∧ nv = .int .i64 0) (fun _ iv _ => 1 - (intOf iv).toNat)
    case atStart => exact ⟨rfl, rfl, rfl⟩
    case round =>
      obtain ⟨rfl, rfl, rfl⟩ := hrel
      go_wp2_with fail
      go_ret
      exact ⟨rfl, Keep.refl _⟩
end Go.Proofs.Qxb6500771aGreat
