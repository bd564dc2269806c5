/- cipherm: sizes, New; what Encrypt is to the modes. -/
import Derived.Test.Qxb6500769aSm
import Derived.Test.Qxb6500769aArr
namespace Go.Proofs.Qxb6500769a
open Go.RowKit Go.Qm
set_option linter.unusedVariables false
set_option linter.unusedSimpArgs false
attribute [local go_sem ↓] Go.wp_at_zero Go.wp_at_succ

def ksz (a : Int) : Nat := if a = 1 ∨ a = 3 then 16 else if a = 2 ∨ a = 4 then 32 else if a = 5 then 24 else 0
def bsz16 (a : Int) : Nat := if a = 1 ∨ a = 2 ∨ a = 3 ∨ a = 4 then 16 else if a = 5 then 8 else 0
theorem alg_cases (a : Int) : a = 1 ∨ a = 2 ∨ a = 3 ∨ a = 4 ∨ a = 5 ∨ (ksz a = 0 ∧ bsz16 a = 0 ∧ (a == 1) = false ∧ (a == 2) = false ∧ (a == 3) = false ∧ (a == 4) = false ∧ (a == 5) = false) := by
  by_cases h1 : a = 1
  · exact Or.inl h1
  by_cases h2 : a = 2
  · exact Or.inr (Or.inl h2)
  by_cases h3 : a = 3
  · exact Or.inr (Or.inr (Or.inl h3))
  by_cases h4 : a = 4
  · exact Or.inr (Or.inr (Or.inr (Or.inl h4)))
  by_cases h5 : a = 5
  · exact Or.inr (Or.inr (Or.inr (Or.inr (Or.inl h5))))
  refine Or.inr (Or.inr (Or.inr (Or.inr (Or.inr ⟨?_, ?_, ?_, ?_, ?_, ?_, ?_⟩))))
  · unfold ksz; rw [if_neg (by omega), if_neg (by omega), if_neg h5]
  · unfold bsz16; rw [if_neg (by omega), if_neg h5]
  all_goals simpa
theorem keySizeC_c (a : Int) (w : World) : Calls Try.prog 13 #[.int .i64 a] w fun e w' => e = .returned (.int .i64 (ksz a)) ∧ w' = w := by
  rcases alg_cases a with rfl | rfl | rfl | rfl | rfl | ⟨h0, -, y1, y2, y3, y4, y5⟩
  · go_enter Try.func13, Try.ntmps13; go_wp2; go_ret; exact ⟨rfl, rfl⟩
  · go_enter Try.func13, Try.ntmps13; go_wp2; go_ret; exact ⟨rfl, rfl⟩
  · go_enter Try.func13, Try.ntmps13; go_wp2; go_ret; exact ⟨rfl, rfl⟩
  · go_enter Try.func13, Try.ntmps13; go_wp2; go_ret; exact ⟨rfl, rfl⟩
  · go_enter Try.func13, Try.ntmps13; go_wp2; go_ret; exact ⟨rfl, rfl⟩
  · rw [h0]; clear h0; go_enter Try.func13, Try.ntmps13; go_wp2; go_ret; exact ⟨rfl, rfl⟩
theorem blockSizeC_c (a : Int) (w : World) : Calls Try.prog 35 #[.int .i64 a] w fun e w' => e = .returned (.int .i64 (bsz16 a)) ∧ w' = w := by
  rcases alg_cases a with rfl | rfl | rfl | rfl | rfl | ⟨-, h0, y1, y2, y3, y4, y5⟩
  · go_enter Try.func35, Try.ntmps35; go_wp2; go_ret; exact ⟨rfl, rfl⟩
  · go_enter Try.func35, Try.ntmps35; go_wp2; go_ret; exact ⟨rfl, rfl⟩
  · go_enter Try.func35, Try.ntmps35; go_wp2; go_ret; exact ⟨rfl, rfl⟩
  · go_enter Try.func35, Try.ntmps35; go_wp2; go_ret; exact ⟨rfl, rfl⟩
  · go_enter Try.func35, Try.ntmps35; go_wp2; go_ret; exact ⟨rfl, rfl⟩
  · rw [h0]; clear h0; go_enter Try.func35, Try.ntmps35; go_wp2; go_ret; exact ⟨rfl, rfl⟩
theorem cBlockSize_c (a : Int) (ka : Option Addr) (n c : Nat) (w : World) : Calls Try.prog 14 #[.agg #[.int .i64 a, .slice ka n c]] w fun e w' => e = .returned (.int .i64 (bsz16 a)) ∧ Keep w w' := by
  go_enter Try.func14, Try.ntmps14
  go_wp2_with fail
  refine (blockSizeC_c a _).mono ?_
  rintro e w1 ⟨rfl, rfl⟩
  go_wp2
  go_ret
  exact ⟨rfl, (Keep.refl w).alloc _⟩
theorem s36 : (Try.prog.info? 36).map (·.size) = some 2 := by kernel_rfl
/-- New: a key of the cipher's own length is bound; an unknown cipher is refused. -/
theorem newBad_c (a : Int) (v : Value) (w : World) (h : ksz a = 0) : Calls Try.prog 12 #[.int .i64 a, v] w fun e w' => e = .returned (.tuple #[.agg #[.int .i64 0, .slice none 0 0], .int .i64 2]) ∧ Keep w w' := by
  have Q := fun W => keySizeC_c a W
  rw [h] at Q
  have A0 := Arr.new w 36 [.int .i64 0, .slice none 0 0]
  go_enter Try.func12, Try.ntmps12
  go_wp2_with fail
  refine (Q _).mono ?_
  rintro e w1 ⟨rfl, rfl⟩
  go_wp2
  have r0 := A0.cell 0
  have r1 := A0.cell 1
  simp only [List.getElem?_cons_zero, List.getElem?_cons_succ] at r0 r1
  refine bodyPost_ret (v := .tuple #[.agg #[.int .i64 0, .slice none 0 0], .int .i64 2]) (by simp [results, Try.results12, go_sem, r0, r1]) rfl ⟨rfl, (Keep.refl w).alloc _⟩
theorem newC_c (a : Int) (v : Value) (key : List UInt8) (w : World) (hb : Bs w v key) (hn : key.length = ksz a) (h0 : ksz a ≠ 0) (hm : key.length ≤ 1000) : Calls Try.prog 12 #[.int .i64 a, v] w fun e w' => ∃ v', e = .returned (.tuple #[.agg #[.int .i64 a, v'], .int .i64 0]) ∧ Own w.heap.size 5 w' v' (key.map cb) ∧ Keep w w' := by
  obtain ⟨ka, c, rfl, hac, hcm, -⟩ := hb.form
  unfold maxLen at hcm
  have Q := fun W => keySizeC_c a W
  rw [← hn] at Q
  have cp := fun W (hk : Keep w W) => copy_c _ key W (hb.keep hk) (by omega)
  have hn0 : key.length ≠ 0 := by omega
  generalize key.length = n at *
  have y0 : ((n : Int) == 0) = false := by simp; omega
  have y1 : ((n : Int) != (n : Int)) = false := by simp
  have A0 := Arr.new w 36 [.int .i64 0, .slice none 0 0]
  have K0 := (Keep.refl w).alloc (.cells #[.int .i64 0, .slice none 0 0] 36)
  clear hn h0 hn0
  go_enter Try.func12, Try.ntmps12
  go_wp2_with fail
  refine (Q _).mono ?_
  rintro e w1 ⟨rfl, rfl⟩
  go_wp2_with fail
  refine (Q _).mono ?_
  rintro e w1 ⟨rfl, rfl⟩
  go_wp2_with fail
  refine (cp _ K0).mono ?_
  rintro e w2 ⟨v2, rfl, o2, k2⟩
  obtain ⟨va, vc, hv2, -, -, -⟩ := o2.bs.form
  generalize key.length = n2 at *
  subst hv2
  have A2 := A0.keep k2
  go_wp2_with (refine wpList_store_row (by rfl) 36 (.tmp 4) (.tmp 19) (by rfl) w.heap.size #[.int .i64 a, .slice va n2 vc] (by rfl) (by rfl) 36 _ A2 s36 (by rfl) (by simp [Value.oneCell']) ?_)
  have R := A2.row [.int .i64 a, .slice va n2 vc]
  have r0 := R.cell 0
  have r1 := R.cell 1
  simp only [List.getElem?_cons_zero, List.getElem?_cons_succ] at r0 r1
  have KR := (K0.trans k2).setRow (Nat.le_refl _) #[.int .i64 a, .slice va n2 vc]
  have OR : Own w.heap.size 5 (w2.setRow w.heap.size #[.int .i64 a, .slice va n2 vc]) (.slice va n2 vc) (key.map cb) := by
    refine (o2.mono (by simp)).kept (grown_setRow (grown_refl w2 _) _) ?_
    rcases hob : (Value.slice va n2 vc).ownBlock with _ | q
    · exact Or.inl rfl
    · right
      have := (o2.lt q hob).1
      simp at this
      simp; omega
  refine bodyPost_ret (v := .tuple #[.agg #[.int .i64 a, .slice va n2 vc], .int .i64 0]) ?_ ?_ ?_
  rotate_left 2
  · exact ⟨_, rfl, OR, KR⟩
  · simp [results, Try.results12, go_sem, r0, r1]
  · rfl
/-- What the modes need of a cipher with a block of 16 octets. -/
def Enc (al : Int) (kv : Value) (key : List UInt8) (f : List UInt8 → List UInt8) : Prop :=
  (∀ l, l.length = 16 → (f l).length = 16) ∧ ∀ W bv blk, Bs W kv key → Bs W bv blk → blk.length = 16 →
    Calls Try.prog 22 #[.agg #[.int .i64 al, kv], bv] W fun e w' => ∃ v', e = .returned v' ∧ Own W.heap.size 5 w' v' ((f blk).map cb) ∧ Keep W w'
end Go.Proofs.Qxb6500769a
