/- tokenlaw.sound. -/
import Derived.Test.Qxb6500771aGreatJb
import Derived.Deep.MidRow
import Derived.Deep.WholeRow
namespace Go.Proofs.Qxb6500771aGreat
open Go Go.RowKit Go.Qm Go.Qv
set_option linter.unusedVariables false
set_option linter.unusedSimpArgs false
attribute [local go_sem ↓] Go.wp_at_zero Go.wp_at_succ
def zer16 : List Value := [.int .i64 0, .int .i32 0, .slice none 0 0, .int .u32 0, .int .u16 0, .int .u8 0, .int .u16 0, .int .u16 0, .int .u64 0, .slice none 0 0, .slice none 0 0, .bool false, .int .i64 0, .int .i64 0, .int .i64 0, .int .u8 0]
section
variable (kd e us id rrc sq off nn room fi : Int) (f ec : Nat) (a2 a9 a10 : Option Addr) (n2 c2 n9 c9 n10 c10 : Nat) (fa : Bool) (w : World)
set_option maxHeartbeats 1000000 in
theorem sound_no (h : mks kd = false ∨ ¬ srv e ∨ 1048576 < n10) : Calls Tryz.prog 7 #[.agg #[.int .i64 kd, .int .i32 e, .slice a2 n2 c2, .int .u32 us, .int .u16 id, .int .u8 f, .int .u16 ec, .int .u16 rrc, .int .u64 sq, .slice a9 n9 c9, .slice a10 n10 c10, .bool fa, .int .i64 off, .int .i64 nn, .int .i64 room, .int .u8 fi]] w fun x w' =>
    x = .returned (.tuple #[.agg #[.int .i64 kd, .int .i32 e, .slice a2 n2 c2, .int .u32 us, .int .u16 id, .int .u8 f, .int .u16 ec, .int .u16 rrc, .int .u64 sq, .slice a9 n9 c9, .slice a10 n10 c10, .bool fa, .int .i64 off, .int .i64 nn, .int .i64 room, .int .u8 fi], .bool false]) ∧ Keep w w' := by
  have A1 := (Arr.new w 31 [.int .i64 kd, .int .i32 e, .slice a2 n2 c2, .int .u32 us, .int .u16 id, .int .u8 f, .int .u16 ec, .int .u16 rrc, .int .u64 sq, .slice a9 n9 c9, .slice a10 n10 c10, .bool fa, .int .i64 off, .int .i64 nn, .int .i64 room, .int .u8 fi]).keep ((Keep.refl _).alloc (.cells zer16.toArray 31))
  have A2 := new2 w (.cells #[.int .i64 kd, .int .i32 e, .slice a2 n2 c2, .int .u32 us, .int .u16 id, .int .u8 f, .int .u16 ec, .int .u16 rrc, .int .u64 sq, .slice a9 n9 c9, .slice a10 n10 c10, .bool fa, .int .i64 off, .int .i64 nn, .int .i64 room, .int .u8 fi] 31) 31 zer16
  have K0 := ((Keep.refl w).alloc (.cells #[.int .i64 kd, .int .i32 e, .slice a2 n2 c2, .int .u32 us, .int .u16 id, .int .u8 f, .int .u16 ec, .int .u16 rrc, .int .u64 sq, .slice a9 n9 c9, .slice a10 n10 c10, .bool fa, .int .i64 off, .int .i64 nn, .int .i64 room, .int .u8 fi] 31)).alloc (.cells zer16.toArray 31)
  obtain ⟨W, hW⟩ : ∃ W, W = (w.alloc (.cells #[.int .i64 kd, .int .i32 e, .slice a2 n2 c2, .int .u32 us, .int .u16 id, .int .u8 f, .int .u16 ec, .int .u16 rrc, .int .u64 sq, .slice a9 n9 c9, .slice a10 n10 c10, .bool fa, .int .i64 off, .int .i64 nn, .int .i64 room, .int .u8 fi] 31)).alloc (.cells zer16.toArray 31) := ⟨_, rfl⟩
  have A1 : Arr W w.heap.size 31 [.int .i64 kd, .int .i32 e, .slice a2 n2 c2, .int .u32 us, .int .u16 id, .int .u8 f, .int .u16 ec, .int .u16 rrc, .int .u64 sq, .slice a9 n9 c9, .slice a10 n10 c10, .bool fa, .int .i64 off, .int .i64 nn, .int .i64 room, .int .u8 fi] := by rw [hW]; exact A1
  have A2 : Arr W (w.heap.size + 1) 31 zer16 := by rw [hW]; exact A2
  have K0 : Keep w W := by rw [hW]; exact K0
  obtain ⟨g1, hg1⟩ : ∃ g1, g1 = w.heap.size := ⟨_, rfl⟩
  rw [← hg1] at A1 A2
  have HKW := Hid.mk K0
  have HG1 := Hid.mk hg1
  have hx3 : mks kd = true → srv e → ((n10 : Int) > 1048576) := fun h1 h2 => by
    rcases h with h | h | h
    · rw [h1] at h; cases h
    · exact absurd h2 h
    · omega
  clear h
  have c0 := A1.cell 0
  have c1 := A1.cell 1
  have c10 := A1.cell 10
  simp only [List.getElem?_cons_zero, List.getElem?_cons_succ] at c0 c1 c10
  go_enter Tryz.func7, Tryz.ntmps7
  go_wp2_with fail
  unfold zer16 at hW
  rw [← hg1, ← hW]
  clear hg1 hW
  refine (makes_c kd W).mono ?_
  rintro x w1 ⟨rfl, k1⟩
  have B1 := A1.keep k1
  have B2 := A2.keep k1
  have KK := K0.trans k1
  have d0 := B1.cell 0
  have d1 := B1.cell 1
  have d10 := B1.cell 10
  simp only [List.getElem?_cons_zero, List.getElem?_cons_succ] at d0 d1 d10
  clear A1 A2 K0 k1 c0 c1 c10
  cases hmk : mks kd with
  | false =>
    clear hx3 hmk
    have HR1 := Arr.range B1
    go_wp2_with (first
      | (refine wpList_load_mid (by rfl) 31 (.tmp 1) (by rfl) g1 0 (by rfl) [.int .i64 kd, .int .i32 e, .slice a2 n2 c2, .int .u32 us, .int .u16 id, .int .u8 f, .int .u16 ec, .int .u16 rrc, .int .u64 sq, .slice a9 n9 c9, .slice a10 n10 c10, .bool fa, .int .i64 off, .int .i64 nn, .int .i64 room, .int .u8 fi] _ HR1 Tryz.underlying31 rfl siz31 ?_)
      | (refine wpList_store_rowN (by rfl) 31 (.tmp 2) (.tmp 20) (by rfl) (g1 + 1) [.int .i64 kd, .int .i32 e, .slice a2 n2 c2, .int .u32 us, .int .u16 id, .int .u8 f, .int .u16 ec, .int .u16 rrc, .int .u64 sq, .slice a9 n9 c9, .slice a10 n10 c10, .bool fa, .int .i64 off, .int .i64 nn, .int .i64 room, .int .u8 fi].toArray (by rfl) (by rfl) 16 31 _ B2 siz31 (by rfl) (by rfl) (by simp [Value.oneCell']) ?_))
    have AR := Arr.row B2 [.int .i64 kd, .int .i32 e, .slice a2 n2 c2, .int .u32 us, .int .u16 id, .int .u8 f, .int .u16 ec, .int .u16 rrc, .int .u64 sq, .slice a9 n9 c9, .slice a10 n10 c10, .bool fa, .int .i64 off, .int .i64 nn, .int .i64 room, .int .u8 fi]
    have r0 := AR.cell 0
    have r1 := AR.cell 1
    have r2 := AR.cell 2
    have r3 := AR.cell 3
    have r4 := AR.cell 4
    have r5 := AR.cell 5
    have r6 := AR.cell 6
    have r7 := AR.cell 7
    have r8 := AR.cell 8
    have r9 := AR.cell 9
    have r10 := AR.cell 10
    have r11 := AR.cell 11
    have r12 := AR.cell 12
    have r13 := AR.cell 13
    have r14 := AR.cell 14
    have r15 := AR.cell 15
    simp only [List.getElem?_cons_zero, List.getElem?_cons_succ] at r0 r1 r2 r3 r4 r5 r6 r7 r8 r9 r10 r11 r12 r13 r14 r15
    refine bodyPost_ret (v := .tuple #[.agg #[.int .i64 kd, .int .i32 e, .slice a2 n2 c2, .int .u32 us, .int .u16 id, .int .u8 f, .int .u16 ec, .int .u16 rrc, .int .u64 sq, .slice a9 n9 c9, .slice a10 n10 c10, .bool fa, .int .i64 off, .int .i64 nn, .int .i64 room, .int .u8 fi], .bool false]) (by simp [results, Tryz.results7, go_sem, r0, r1, r2, r3, r4, r5, r6, r7, r8, r9, r10, r11, r12, r13, r14, r15]) rfl ?_
    exact ⟨rfl, KK.setRow (by rw [HG1.out]; omega) _⟩
  | true =>
    by_cases hs : srv e
    · have hx := hx3 hmk hs
      clear hx3 hmk
      have HS := Hid.mk hs
      clear hs
      go_wp2_with fail
      refine (served_yes e w1 HS.out).mono ?_
      rintro x w2 ⟨rfl, k1⟩
      replace B1 := B1.keep k1
      replace B2 := B2.keep k1
      replace KK := KK.trans k1
      clear d0 d1 d10 k1
      have d0 := B1.cell 0
      have d1 := B1.cell 1
      have d10 := B1.cell 10
      simp only [List.getElem?_cons_zero, List.getElem?_cons_succ] at d0 d1 d10
      have HR1 := Arr.range B1
      go_wp2_with (first
        | (refine wpList_load_mid (by rfl) 31 (.tmp 1) (by rfl) g1 0 (by rfl) [.int .i64 kd, .int .i32 e, .slice a2 n2 c2, .int .u32 us, .int .u16 id, .int .u8 f, .int .u16 ec, .int .u16 rrc, .int .u64 sq, .slice a9 n9 c9, .slice a10 n10 c10, .bool fa, .int .i64 off, .int .i64 nn, .int .i64 room, .int .u8 fi] _ HR1 Tryz.underlying31 rfl siz31 ?_)
        | (refine wpList_store_rowN (by rfl) 31 (.tmp 2) (.tmp 20) (by rfl) (g1 + 1) [.int .i64 kd, .int .i32 e, .slice a2 n2 c2, .int .u32 us, .int .u16 id, .int .u8 f, .int .u16 ec, .int .u16 rrc, .int .u64 sq, .slice a9 n9 c9, .slice a10 n10 c10, .bool fa, .int .i64 off, .int .i64 nn, .int .i64 room, .int .u8 fi].toArray (by rfl) (by rfl) 16 31 _ B2 siz31 (by rfl) (by rfl) (by simp [Value.oneCell']) ?_))
      have AR := Arr.row B2 [.int .i64 kd, .int .i32 e, .slice a2 n2 c2, .int .u32 us, .int .u16 id, .int .u8 f, .int .u16 ec, .int .u16 rrc, .int .u64 sq, .slice a9 n9 c9, .slice a10 n10 c10, .bool fa, .int .i64 off, .int .i64 nn, .int .i64 room, .int .u8 fi]
      have r0 := AR.cell 0
      have r1 := AR.cell 1
      have r2 := AR.cell 2
      have r3 := AR.cell 3
      have r4 := AR.cell 4
      have r5 := AR.cell 5
      have r6 := AR.cell 6
      have r7 := AR.cell 7
      have r8 := AR.cell 8
      have r9 := AR.cell 9
      have r10 := AR.cell 10
      have r11 := AR.cell 11
      have r12 := AR.cell 12
      have r13 := AR.cell 13
      have r14 := AR.cell 14
      have r15 := AR.cell 15
      simp only [List.getElem?_cons_zero, List.getElem?_cons_succ] at r0 r1 r2 r3 r4 r5 r6 r7 r8 r9 r10 r11 r12 r13 r14 r15
      refine bodyPost_ret (v := .tuple #[.agg #[.int .i64 kd, .int .i32 e, .slice a2 n2 c2, .int .u32 us, .int .u16 id, .int .u8 f, .int .u16 ec, .int .u16 rrc, .int .u64 sq, .slice a9 n9 c9, .slice a10 n10 c10, .bool fa, .int .i64 off, .int .i64 nn, .int .i64 room, .int .u8 fi], .bool false]) (by simp [results, Tryz.results7, go_sem, r0, r1, r2, r3, r4, r5, r6, r7, r8, r9, r10, r11, r12, r13, r14, r15]) rfl ?_
      exact ⟨rfl, KK.setRow (by rw [HG1.out]; omega) _⟩
    · clear hx3 hmk
      go_wp2_with fail
      refine (served_no e w1 hs).mono ?_
      rintro x w2 ⟨rfl, k1⟩
      clear hs
      replace B1 := B1.keep k1
      replace B2 := B2.keep k1
      replace KK := KK.trans k1
      clear d0 d1 d10 k1
      have d0 := B1.cell 0
      have d1 := B1.cell 1
      have d10 := B1.cell 10
      simp only [List.getElem?_cons_zero, List.getElem?_cons_succ] at d0 d1 d10
      have HR1 := Arr.range B1
      go_wp2_with (first
        | (refine wpList_load_mid (by rfl) 31 (.tmp 1) (by rfl) g1 0 (by rfl) [.int .i64 kd, .int .i32 e, .slice a2 n2 c2, .int .u32 us, .int .u16 id, .int .u8 f, .int .u16 ec, .int .u16 rrc, .int .u64 sq, .slice a9 n9 c9, .slice a10 n10 c10, .bool fa, .int .i64 off, .int .i64 nn, .int .i64 room, .int .u8 fi] _ HR1 Tryz.underlying31 rfl siz31 ?_)
        | (refine wpList_store_rowN (by rfl) 31 (.tmp 2) (.tmp 20) (by rfl) (g1 + 1) [.int .i64 kd, .int .i32 e, .slice a2 n2 c2, .int .u32 us, .int .u16 id, .int .u8 f, .int .u16 ec, .int .u16 rrc, .int .u64 sq, .slice a9 n9 c9, .slice a10 n10 c10, .bool fa, .int .i64 off, .int .i64 nn, .int .i64 room, .int .u8 fi].toArray (by rfl) (by rfl) 16 31 _ B2 siz31 (by rfl) (by rfl) (by simp [Value.oneCell']) ?_))
      have AR := Arr.row B2 [.int .i64 kd, .int .i32 e, .slice a2 n2 c2, .int .u32 us, .int .u16 id, .int .u8 f, .int .u16 ec, .int .u16 rrc, .int .u64 sq, .slice a9 n9 c9, .slice a10 n10 c10, .bool fa, .int .i64 off, .int .i64 nn, .int .i64 room, .int .u8 fi]
      have r0 := AR.cell 0
      have r1 := AR.cell 1
      have r2 := AR.cell 2
      have r3 := AR.cell 3
      have r4 := AR.cell 4
      have r5 := AR.cell 5
      have r6 := AR.cell 6
      have r7 := AR.cell 7
      have r8 := AR.cell 8
      have r9 := AR.cell 9
      have r10 := AR.cell 10
      have r11 := AR.cell 11
      have r12 := AR.cell 12
      have r13 := AR.cell 13
      have r14 := AR.cell 14
      have r15 := AR.cell 15
      simp only [List.getElem?_cons_zero, List.getElem?_cons_succ] at r0 r1 r2 r3 r4 r5 r6 r7 r8 r9 r10 r11 r12 r13 r14 r15
      refine bodyPost_ret (v := .tuple #[.agg #[.int .i64 kd, .int .i32 e, .slice a2 n2 c2, .int .u32 us, .int .u16 id, .int .u8 f, .int .u16 ec, .int .u16 rrc, .int .u64 sq, .slice a9 n9 c9, .slice a10 n10 c10, .bool fa, .int .i64 off, .int .i64 nn, .int .i64 room, .int .u8 fi], .bool false]) (by simp [results, Tryz.results7, go_sem, r0, r1, r2, r3, r4, r5, r6, r7, r8, r9, r10, r11, r12, r13, r14, r15]) rfl ?_
      exact ⟨rfl, KK.setRow (by rw [HG1.out]; omega) _⟩
end
end Go.Proofs.Qxb6500771aGreat
