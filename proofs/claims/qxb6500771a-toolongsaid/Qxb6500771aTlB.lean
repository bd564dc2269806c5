/- checkKey, planWrap, WrapParts, Wrap, planMIC, MICParts, MIC: the ways by which they refuse. -/
import Derived.Test.Qxb6500771aTlA
namespace Go.Proofs.Qxb6500771a
open Go.RowKit Go.Qm
set_option linter.unusedVariables false
set_option linter.unusedSimpArgs false
attribute [local go_sem ↓] Go.wp_at_zero Go.wp_at_succ

def zer3 : List Value := [.int .i64 0, .int .i64 0, .int .i64 0]
theorem new2 (w : World) (o : Obj) (t : TypeId) (cs : List Value) : Arr ((w.alloc o).alloc (.cells cs.toArray t)) (w.heap.size + 1) t cs := by
  have := Arr.new (w.alloc o) t cs
  rw [World.size_alloc] at this
  exact this
theorem new3 (w : World) (o o' : Obj) (t : TypeId) (cs : List Value) : Arr (((w.alloc o).alloc o').alloc (.cells cs.toArray t)) (w.heap.size + 1 + 1) t cs := by
  have := new2 (w.alloc o) o' t cs
  rw [World.size_alloc] at this
  exact this
set_option maxHeartbeats 1000000 in
theorem checkKey_bad (e : Int) (ao : Option Addr) (n co q : Nat) (w : World) (hn : n ≤ 1000000) (hq : (¬ srv e ∧ q = 1) ∨ (srv e ∧ n ≠ kl e ∧ q = 2)) :
    Calls Try.prog 59 #[.agg #[.int .i32 e, .slice ao n co]] w fun x w' => x = .returned (.tuple #[.agg #[.int .i64 0, .int .i64 0, .int .i64 0], .int .i64 q]) ∧ Keep w w' := by
  have A0 := new2 w (.cells #[.int .i32 e, .slice ao n co] 56) 80 zer3
  have K0 := ((Keep.refl w).alloc (.cells #[.int .i32 e, .slice ao n co] 56)).alloc (.cells zer3.toArray 80)
  have kle := kl_le e
  rcases hq with ⟨hs, rfl⟩ | ⟨hs, hne, rfl⟩
  · go_enter Try.func59, Try.ntmps59
    go_wp2_with fail
    refine (sizesOf_bad e _ hs).mono ?_
    rintro x w1 ⟨rfl, k1⟩
    have A1 := (A0.keep k1).keep ((Keep.refl w1).alloc (.cells #[.int .i64 0, .int .i64 0, .int .i64 0] 80))
    have K1 := (K0.trans k1).alloc (.cells #[.int .i64 0, .int .i64 0, .int .i64 0] 80)
    go_wp2_with (refine wpList_store_rowN (by rfl) 80 (.tmp 2) (.tmp 14) (by rfl) (w.heap.size + 1) zer3.toArray (by rfl) (by rfl) 3 80 _ A1 s80 (by rfl) (by rfl) (by simp [zer3, Value.oneCell']) ?_)
    have AR := A1.row zer3
    have r0 := AR.cell 0
    have r1 := AR.cell 1
    have r2 := AR.cell 2
    simp only [zer3, List.getElem?_cons_zero, List.getElem?_cons_succ] at r0 r1 r2
    refine bodyPost_ret (v := .tuple #[.agg #[.int .i64 0, .int .i64 0, .int .i64 0], .int .i64 1]) (by simp [results, Try.results59, go_sem, zer3, r0, r1, r2]) rfl ⟨rfl, K1.setRow (by omega) _⟩
  · have C1 : ((n : Int) != (kl e : Int)) = true := bne_t (by omega)
    have SO := fun W => sizesOf_ok e W hs
    generalize kl e = a at *
    generalize cl e = b at *
    go_enter Try.func59, Try.ntmps59
    go_wp2_with fail
    refine (SO _).mono ?_
    rintro x w1 ⟨rfl, k1⟩
    have KEY : w1.cell? ⟨w.heap.size, 1, none⟩ = some (.slice ao n co) := by
      have h0 : Arr (w.alloc (.cells [.int .i32 e, .slice ao n co].toArray 56)) w.heap.size 56 [.int .i32 e, .slice ao n co] := Arr.new w 56 _
      exact ((h0.keep ((Keep.refl _).alloc (.cells zer3.toArray 80))).keep k1).cell 1
    have A1 := (A0.keep k1).keep ((Keep.refl w1).alloc (.cells #[.int .i64 a, .int .i64 16, .int .i64 b] 80))
    have K1 := (K0.trans k1).alloc (.cells #[.int .i64 a, .int .i64 16, .int .i64 b] 80)
    have KEY1 := ((Keep.refl w1).alloc (.cells #[.int .i64 a, .int .i64 16, .int .i64 b] 80)).cell KEY
    go_wp2_with (refine wpList_store_rowN (by rfl) 80 (.tmp 2) (.tmp 22) (by rfl) (w.heap.size + 1) zer3.toArray (by rfl) (by rfl) 3 80 _ A1 s80 (by rfl) (by rfl) (by simp [zer3, Value.oneCell']) ?_)
    have AR := A1.row zer3
    have r0 := AR.cell 0
    have r1 := AR.cell 1
    have r2 := AR.cell 2
    simp only [zer3, List.getElem?_cons_zero, List.getElem?_cons_succ] at r0 r1 r2
    refine bodyPost_ret (v := .tuple #[.agg #[.int .i64 0, .int .i64 0, .int .i64 0], .int .i64 2]) (by simp [results, Try.results59, go_sem, zer3, r0, r1, r2]) rfl ⟨rfl, K1.setRow (by omega) _⟩
set_option maxHeartbeats 1000000 in
theorem checkKey_ok (e : Int) (ao : Option Addr) (n co : Nat) (w : World) (hs : srv e) (hn : n = kl e) :
    Calls Try.prog 59 #[.agg #[.int .i32 e, .slice ao n co]] w fun x w' => x = .returned (.tuple #[.agg #[.int .i64 (kl e), .int .i64 16, .int .i64 (cl e)], .int .i64 0]) ∧ Keep w w' := by
  have A0 := new2 w (.cells #[.int .i32 e, .slice ao n co] 56) 80 zer3
  have K0 := ((Keep.refl w).alloc (.cells #[.int .i32 e, .slice ao n co] 56)).alloc (.cells zer3.toArray 80)
  have C1 : ((n : Int) != (kl e : Int)) = false := bne_f (by omega)
  have SO := fun W => sizesOf_ok e W hs
  clear hn
  generalize kl e = a at *
  generalize cl e = b at *
  go_enter Try.func59, Try.ntmps59
  go_wp2_with fail
  refine (SO _).mono ?_
  rintro x w1 ⟨rfl, k1⟩
  have KEY : w1.cell? ⟨w.heap.size, 1, none⟩ = some (.slice ao n co) := by
    have h0 : Arr (w.alloc (.cells [.int .i32 e, .slice ao n co].toArray 56)) w.heap.size 56 [.int .i32 e, .slice ao n co] := Arr.new w 56 _
    exact ((h0.keep ((Keep.refl _).alloc (.cells zer3.toArray 80))).keep k1).cell 1
  have A1 := (A0.keep k1).keep ((Keep.refl w1).alloc (.cells #[.int .i64 a, .int .i64 16, .int .i64 b] 80))
  have K1 := (K0.trans k1).alloc (.cells #[.int .i64 a, .int .i64 16, .int .i64 b] 80)
  have KEY1 := ((Keep.refl w1).alloc (.cells #[.int .i64 a, .int .i64 16, .int .i64 b] 80)).cell KEY
  go_wp2_with (refine wpList_store_rowN (by rfl) 80 (.tmp 2) (.tmp 23) (by rfl) (w.heap.size + 1) [.int .i64 a, .int .i64 16, .int .i64 b].toArray (by rfl) (by rfl) 3 80 _ A1 s80 (by rfl) (by rfl) (by simp [Value.oneCell']) ?_)
  have AR := A1.row [.int .i64 a, .int .i64 16, .int .i64 b]
  have r0 := AR.cell 0
  have r1 := AR.cell 1
  have r2 := AR.cell 2
  simp only [List.getElem?_cons_zero, List.getElem?_cons_succ] at r0 r1 r2
  refine bodyPost_ret (v := .tuple #[.agg #[.int .i64 a, .int .i64 16, .int .i64 b], .int .i64 0]) (by simp [results, Try.results59, go_sem, r0, r1, r2]) rfl ⟨rfl, K1.setRow (by omega) _⟩

def zer6 : List Value := [.int .i64 0, .int .i64 0, .int .i64 0, .bool false, .int .i64 0, .int .i64 0]
theorem s82 : (Try.prog.info? 82).map (·.size) = some 6 := by kernel_rfl
theorem planWrap_key (e : Int) (ao : Option Addr) (n co q : Nat) (us f sq ec rrc : Nat) (ac : Option Addr) (nc cc : Nat) (m : Int) (w : World) (hq0 : q ≠ 0) (HK : ∀ W, Calls Try.prog 59 #[.agg #[.int .i32 e, .slice ao n co]] W fun x w' => x = .returned (.tuple #[.agg #[.int .i64 0, .int .i64 0, .int .i64 0], .int .i64 q]) ∧ Keep W w') :
    Calls Try.prog 52 #[.agg #[.int .i32 e, .slice ao n co], .agg #[.int .u32 us, .int .u8 f, .int .u64 sq, .int .u16 ec, .int .u16 rrc, .slice ac nc cc], .int .i64 m] w fun x w' => x = .returned (.tuple #[.agg #[.int .i64 0, .int .i64 0, .int .i64 0, .bool false, .int .i64 0, .int .i64 0], .int .i64 q]) ∧ Keep w w' := by
  have A0 := new3 w (.cells #[.int .i32 e, .slice ao n co] 56) (.cells #[.int .u32 us, .int .u8 f, .int .u64 sq, .int .u16 ec, .int .u16 rrc, .slice ac nc cc] 58) 82 zer6
  have K0 := (((Keep.refl w).alloc (.cells #[.int .i32 e, .slice ao n co] 56)).alloc (.cells #[.int .u32 us, .int .u8 f, .int .u64 sq, .int .u16 ec, .int .u16 rrc, .slice ac nc cc] 58)).alloc (.cells zer6.toArray 82)
  have yq : ((q : Int) != 0) = true := bne_t (by omega)
  go_enter Try.func52, Try.ntmps52
  go_wp2_with fail
  refine (HK _).mono ?_
  rintro x w1 ⟨rfl, k1⟩
  have A1 := (A0.keep k1).keep ((Keep.refl w1).alloc (.cells #[.int .i64 0, .int .i64 0, .int .i64 0] 80))
  have K1 := (K0.trans k1).alloc (.cells #[.int .i64 0, .int .i64 0, .int .i64 0] 80)
  go_wp2_with (refine wpList_store_rowN (by rfl) 82 (.tmp 6) (.tmp 18) (by rfl) (w.heap.size + 1 + 1) zer6.toArray (by rfl) (by rfl) 6 82 _ A1 s82 (by rfl) (by rfl) (by simp [zer6, Value.oneCell']) ?_)
  have AR := A1.row zer6
  have r0 := AR.cell 0
  have r1 := AR.cell 1
  have r2 := AR.cell 2
  have r3 := AR.cell 3
  have r4 := AR.cell 4
  have r5 := AR.cell 5
  simp only [zer6, List.getElem?_cons_zero, List.getElem?_cons_succ] at r0 r1 r2 r3 r4 r5
  refine bodyPost_ret (v := .tuple #[.agg #[.int .i64 0, .int .i64 0, .int .i64 0, .bool false, .int .i64 0, .int .i64 0], .int .i64 q]) (by simp [results, Try.results52, go_sem, zer6, r0, r1, r2, r3, r4, r5]) rfl ⟨rfl, K1.setRow (by omega) _⟩
theorem planWrap_long (e : Int) (ao : Option Addr) (n co : Nat) (us f sq ec rrc : Nat) (ac : Option Addr) (nc cc : Nat) (m : Int) (w : World) (hs : srv e) (hn : n = kl e) (hf : f < 8) (hm : m > 1048576) :
    Calls Try.prog 52 #[.agg #[.int .i32 e, .slice ao n co], .agg #[.int .u32 us, .int .u8 f, .int .u64 sq, .int .u16 ec, .int .u16 rrc, .slice ac nc cc], .int .i64 m] w fun x w' => x = .returned (.tuple #[.agg #[.int .i64 0, .int .i64 0, .int .i64 0, .bool false, .int .i64 0, .int .i64 0], .int .i64 4]) ∧ Keep w w' := by
  have A0 := new3 w (.cells #[.int .i32 e, .slice ao n co] 56) (.cells #[.int .u32 us, .int .u8 f, .int .u64 sq, .int .u16 ec, .int .u16 rrc, .slice ac nc cc] 58) 82 zer6
  have S0 := (new2 w (.cells #[.int .i32 e, .slice ao n co] 56) 58 [.int .u32 us, .int .u8 f, .int .u64 sq, .int .u16 ec, .int .u16 rrc, .slice ac nc cc]).keep ((Keep.refl _).alloc (.cells zer6.toArray 82))
  have K0 := (((Keep.refl w).alloc (.cells #[.int .i32 e, .slice ao n co] 56)).alloc (.cells #[.int .u32 us, .int .u8 f, .int .u64 sq, .int .u16 ec, .int .u16 rrc, .slice ac nc cc] 58)).alloc (.cells zer6.toArray 82)
  have HK := fun W => checkKey_ok e ao n co W hs hn
  have hcf : cf 1284 f = 0 := by unfold cf; rw [if_neg (by omega), if_neg (by omega)]
  have CF : ∀ W, Calls Try.prog 37 #[.int .u16 1284, .int .u8 f] W fun e w' => e = .returned (.int .i64 0) ∧ Keep W w' := fun W => by
    have := checkFlags_c 1284 f W (by omega) (by omega)
    rw [hcf] at this; exact this
  generalize kl e = a at *
  generalize cl e = b at *
  clear hcf hn
  go_enter Try.func52, Try.ntmps52
  go_wp2_with fail
  refine (HK _).mono ?_
  rintro x w1 ⟨rfl, k1⟩
  have KB := (Keep.refl w1).alloc (.cells #[.int .i64 a, .int .i64 16, .int .i64 b] 80)
  have A1 := (A0.keep k1).keep KB
  have K1 := (K0.trans k1).trans KB
  have f1 := ((S0.keep k1).keep KB).cell 1
  simp only [List.getElem?_cons_zero, List.getElem?_cons_succ] at f1
  go_wp2_with fail
  refine (CF _).mono ?_
  rintro x w2 ⟨rfl, k2⟩
  have A2 := A1.keep k2
  have K2 := K1.trans k2
  go_wp2_with (refine wpList_store_rowN (by rfl) 82 (.tmp 6) (.tmp 29) (by rfl) (w.heap.size + 1 + 1) zer6.toArray (by rfl) (by rfl) 6 82 _ A2 s82 (by rfl) (by rfl) (by simp [zer6, Value.oneCell']) ?_)
  have AR := A2.row zer6
  have r0 := AR.cell 0
  have r1 := AR.cell 1
  have r2 := AR.cell 2
  have r3 := AR.cell 3
  have r4 := AR.cell 4
  have r5 := AR.cell 5
  simp only [zer6, List.getElem?_cons_zero, List.getElem?_cons_succ] at r0 r1 r2 r3 r4 r5
  refine bodyPost_ret (v := .tuple #[.agg #[.int .i64 0, .int .i64 0, .int .i64 0, .bool false, .int .i64 0, .int .i64 0], .int .i64 4]) (by simp [results, Try.results52, go_sem, zer6, r0, r1, r2, r3, r4, r5]) rfl ⟨rfl, K2.setRow (by omega) _⟩
theorem planMIC_key (e : Int) (ao : Option Addr) (n co q : Nat) (us f sq ec rrc : Nat) (ac : Option Addr) (nc cc : Nat) (m : Int) (w : World) (hq0 : q ≠ 0) (HK : ∀ W, Calls Try.prog 59 #[.agg #[.int .i32 e, .slice ao n co]] W fun x w' => x = .returned (.tuple #[.agg #[.int .i64 0, .int .i64 0, .int .i64 0], .int .i64 q]) ∧ Keep W w') :
    Calls Try.prog 55 #[.agg #[.int .i32 e, .slice ao n co], .agg #[.int .u32 us, .int .u8 f, .int .u64 sq, .int .u16 ec, .int .u16 rrc, .slice ac nc cc], .int .i64 m] w fun x w' => x = .returned (.tuple #[.agg #[.int .i64 0, .int .i64 0, .int .i64 0], .int .i64 q]) ∧ Keep w w' := by
  have A0 := new3 w (.cells #[.int .i32 e, .slice ao n co] 56) (.cells #[.int .u32 us, .int .u8 f, .int .u64 sq, .int .u16 ec, .int .u16 rrc, .slice ac nc cc] 58) 80 zer3
  have K0 := (((Keep.refl w).alloc (.cells #[.int .i32 e, .slice ao n co] 56)).alloc (.cells #[.int .u32 us, .int .u8 f, .int .u64 sq, .int .u16 ec, .int .u16 rrc, .slice ac nc cc] 58)).alloc (.cells zer3.toArray 80)
  have yq : ((q : Int) != 0) = true := bne_t (by omega)
  go_enter Try.func55, Try.ntmps55
  go_wp2_with fail
  refine (HK _).mono ?_
  rintro x w1 ⟨rfl, k1⟩
  have A1 := (A0.keep k1).keep ((Keep.refl w1).alloc (.cells #[.int .i64 0, .int .i64 0, .int .i64 0] 80))
  have K1 := (K0.trans k1).alloc (.cells #[.int .i64 0, .int .i64 0, .int .i64 0] 80)
  go_wp2_with (refine wpList_store_rowN (by rfl) 80 (.tmp 6) (.tmp 18) (by rfl) (w.heap.size + 1 + 1) zer3.toArray (by rfl) (by rfl) 3 80 _ A1 s80 (by rfl) (by rfl) (by simp [zer3, Value.oneCell']) ?_)
  have AR := A1.row zer3
  have r0 := AR.cell 0
  have r1 := AR.cell 1
  have r2 := AR.cell 2
  simp only [zer3, List.getElem?_cons_zero, List.getElem?_cons_succ] at r0 r1 r2
  refine bodyPost_ret (v := .tuple #[.agg #[.int .i64 0, .int .i64 0, .int .i64 0], .int .i64 q]) (by simp [results, Try.results55, go_sem, zer3, r0, r1, r2]) rfl ⟨rfl, K1.setRow (by omega) _⟩
theorem planMIC_long (e : Int) (ao : Option Addr) (n co : Nat) (us sq : Nat) (ac : Option Addr) (nc cc : Nat) (m : Int) (w : World) (hs : srv e) (hn : n = kl e) (hm : m > 1048576) :
    Calls Try.prog 55 #[.agg #[.int .i32 e, .slice ao n co], .agg #[.int .u32 us, .int .u8 0, .int .u64 sq, .int .u16 0, .int .u16 0, .slice ac nc cc], .int .i64 m] w fun x w' => x = .returned (.tuple #[.agg #[.int .i64 0, .int .i64 0, .int .i64 0], .int .i64 4]) ∧ Keep w w' := by
  have A0 := new3 w (.cells #[.int .i32 e, .slice ao n co] 56) (.cells #[.int .u32 us, .int .u8 0, .int .u64 sq, .int .u16 0, .int .u16 0, .slice ac nc cc] 58) 80 zer3
  have S0 := (new2 w (.cells #[.int .i32 e, .slice ao n co] 56) 58 [.int .u32 us, .int .u8 0, .int .u64 sq, .int .u16 0, .int .u16 0, .slice ac nc cc]).keep ((Keep.refl _).alloc (.cells zer3.toArray 80))
  have K0 := (((Keep.refl w).alloc (.cells #[.int .i32 e, .slice ao n co] 56)).alloc (.cells #[.int .u32 us, .int .u8 0, .int .u64 sq, .int .u16 0, .int .u16 0, .slice ac nc cc] 58)).alloc (.cells zer3.toArray 80)
  have HK := fun W => checkKey_ok e ao n co W hs hn
  have CH : ∀ W, Calls Try.prog 11 #[.agg #[.int .u16 1028, .int .u8 0, .int .u16 0, .int .u16 0, .int .u64 sq]] W fun e w' => e = .returned (.int .i64 0) ∧ Keep W w' := fun W => checkHeader_c 1028 0 0 0 sq W (by omega) (by omega)
  clear hn
  generalize kl e = a at *
  generalize cl e = b at *
  go_enter Try.func55, Try.ntmps55
  go_wp2_with fail
  refine (HK _).mono ?_
  rintro x w1 ⟨rfl, k1⟩
  have KB := (Keep.refl w1).alloc (.cells #[.int .i64 a, .int .i64 16, .int .i64 b] 80)
  have A1 := (A0.keep k1).keep KB
  have K1 := (K0.trans k1).trans KB
  have SX := (S0.keep k1).keep KB
  have f1 := SX.cell 1
  have f2 := SX.cell 2
  have f3 := SX.cell 3
  have f4 := SX.cell 4
  simp only [List.getElem?_cons_zero, List.getElem?_cons_succ] at f1 f2 f3 f4
  have KC := (Keep.refl (w1.alloc (.cells #[.int .i64 a, .int .i64 16, .int .i64 b] 80))).alloc (.cells #[.int .u16 1028, .int .u8 0, .int .u16 0, .int .u16 0, .int .u64 sq] 33)
  go_wp2_with fail
  refine (CH _).mono ?_
  rintro x w2 ⟨rfl, k2⟩
  have A2 := (A1.keep KC).keep k2
  have K2 := K1.trans (KC.trans k2)
  go_wp2_with (refine wpList_store_rowN (by rfl) 80 (.tmp 6) (.tmp 37) (by rfl) (w.heap.size + 1 + 1) zer3.toArray (by rfl) (by rfl) 3 80 _ A2 s80 (by rfl) (by rfl) (by simp [zer3, Value.oneCell']) ?_)
  have AR := A2.row zer3
  have r0 := AR.cell 0
  have r1 := AR.cell 1
  have r2 := AR.cell 2
  simp only [zer3, List.getElem?_cons_zero, List.getElem?_cons_succ] at r0 r1 r2
  refine bodyPost_ret (v := .tuple #[.agg #[.int .i64 0, .int .i64 0, .int .i64 0], .int .i64 4]) (by simp [results, Try.results55, go_sem, zer3, r0, r1, r2]) rfl ⟨rfl, K2.setRow (by omega) _⟩
/-- The length of a message in one piece. -/
def lof (n : Nat) : Int := if n ≤ 1048576 then n else 1048577
theorem lengthOf_c (g : Nat) (a : Option Addr) (n c : Nat) (w : World) (hn : n ≤ 1000000000) (hc : w.cell? ⟨g, 0, none⟩ = some (.slice a n c)) :
    Calls Try.prog 53 #[.slice (some ⟨g, 0, none⟩) 1 1] w fun x w' => x = .returned (.int .i64 (lof n)) ∧ Keep w w' := by
  have hn' : (n : Int) ≤ 1000000000 := by omega
  by_cases h : n ≤ 1048576
  · have y : ¬ (n : Int) > 1048576 := by omega
    have hl : lof n = n := if_pos h
    rw [hl]
    clear hl h
    go_enter Try.func53, Try.ntmps53
    go_wp2_with fail
    go_loopw [3, 7] (fun nv iv wr => wr = w ∧ ((iv = .int .i64 0 ∧ nv = .int .i64 0) ∨ (iv = .int .i64 1 ∧ nv = .int .i64 n))) (fun _ iv _ => 1 - (intOf iv).toNat)
    case atStart => exact ⟨rfl, Or.inl ⟨rfl, rfl⟩⟩
    case round =>
      obtain ⟨rfl, ⟨rfl, rfl⟩ | ⟨rfl, rfl⟩⟩ := hrel
      · go_wp2_with fail
        go_roundw
        case rel => simp
        case measure => simp [intOf]
      · go_wp2_with fail
        go_ret
        exact ⟨rfl, Keep.refl _⟩
  · have y : (n : Int) > 1048576 := by omega
    have hl : lof n = 1048577 := if_neg h
    rw [hl]
    clear hl h
    go_enter Try.func53, Try.ntmps53
    go_wp2_with fail
    go_loopw [3, 7] (fun nv iv wr => wr = w ∧ iv = .int .i64 0 ∧ nv = .int .i64 0) (fun _ iv _ => 1 - (intOf iv).toNat)
    case atStart => exact ⟨rfl, rfl, rfl⟩
    case round =>
      obtain ⟨rfl, rfl, rfl⟩ := hrel
      go_wp2_with fail
      go_ret
      exact ⟨rfl, Keep.refl _⟩
end Go.Proofs.Qxb6500771a
