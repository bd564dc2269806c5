/- cipherm: sizes, New; what Encrypt is to the modes. -/
import Derived.Test.Qxb6500771aGreatSm
import Derived.Test.Qxb6500771aGreatArr
namespace Go.Proofs.Qxb6500771aGreat
open Go.RowKit Go.Qm
set_option linter.unusedVariables false
set_option linter.unusedSimpArgs false
attribute [local go_sem ↓] Go.wp_at_zero Go.wp_at_succ

def ksz (a : Int) : Nat := if a = 1 ∨ a = 3 then 16 else if a = 2 ∨ a = 4 then 32 else 0
def Alg (a : Int) : Prop := a = 1 ∨ a = 2 ∨ a = 3 ∨ a = 4
theorem blockSizeC_c (a : Int) (w : World) (h : Alg a) : Calls Tryz.prog 101 #[.int .i64 a] w fun e w' => e = .returned (.int .i64 16) ∧ w' = w := by
  rcases h with rfl | rfl | rfl | rfl
  · go_enter Tryz.func101, Tryz.ntmps101; go_wp2; go_ret; exact ⟨rfl, rfl⟩
  · go_enter Tryz.func101, Tryz.ntmps101; go_wp2; go_ret; exact ⟨rfl, rfl⟩
  · go_enter Tryz.func101, Tryz.ntmps101; go_wp2; go_ret; exact ⟨rfl, rfl⟩
  · go_enter Tryz.func101, Tryz.ntmps101; go_wp2; go_ret; exact ⟨rfl, rfl⟩
theorem cBlockSize_c (a : Int) (ka : Option Addr) (n c : Nat) (w : World) (h : Alg a) : Calls Tryz.prog 89 #[.agg #[.int .i64 a, .slice ka n c]] w fun e w' => e = .returned (.int .i64 16) ∧ Keep w w' := by
  go_enter Tryz.func89, Tryz.ntmps89
  go_wp2_with fail
  refine (blockSizeC_c a _ h).mono ?_
  rintro e w1 ⟨rfl, rfl⟩
  go_wp2
  go_ret
  exact ⟨rfl, (Keep.refl w).alloc _⟩
theorem s123 : (Tryz.prog.info? 123).map (·.size) = some 2 := by kernel_rfl
theorem newC_c (a : Int) (v : Value) (key : List UInt8) (w : World) (hb : Bs w v key) (hm : key.length ≤ 1000) : Calls Tryz.prog 75 #[.int .i64 a, v] w fun e w' => ∃ v', e = .returned (.agg #[.int .i64 a, v']) ∧ Own w.heap.size 5 w' v' (key.map cb) ∧ Keep w w' := by
  obtain ⟨ka, c, rfl, hac, hcm, -⟩ := hb.form
  unfold maxLen at hcm
  have cp := fun W (hk : Keep w W) => copy_c _ key W (hb.keep hk) (by omega)
  generalize key.length = n at *
  have A0 := Arr.new w 123 [.int .i64 0, .slice none 0 0]
  have K0 := (Keep.refl w).alloc (.cells #[.int .i64 0, .slice none 0 0] 123)
  go_enter Tryz.func75, Tryz.ntmps75
  go_wp2_with fail
  refine (cp _ K0).mono ?_
  rintro e w2 ⟨v2, rfl, o2, k2⟩
  obtain ⟨va, vc, hv2, -, -, -⟩ := o2.bs.form
  generalize key.length = n2 at *
  subst hv2
  have A2 := A0.keep k2
  go_wp2_with (refine wpList_store_row (by rfl) 123 (.tmp 4) (.tmp 8) (by rfl) w.heap.size #[.int .i64 a, .slice va n2 vc] (by rfl) (by rfl) 123 _ A2 s123 (by rfl) (by simp [Value.oneCell']) ?_)
  have R := A2.row [.int .i64 a, .slice va n2 vc]
  have r0 := R.cell 0
  have r1 := R.cell 1
  simp only [List.getElem?_cons_zero, List.getElem?_cons_succ] at r0 r1
  have KR := (K0.trans k2).setRow (Nat.le_refl _) #[.int .i64 a, .slice va n2 vc]
  have OR : Own w.heap.size 5 (w2.setRow w.heap.size #[.int .i64 a, .slice va n2 vc]) (.slice va n2 vc) (key.map cb) := by
    refine (o2.mono (by simp)).kept (grown_setRow (grown_refl w2 _) _) ?_
    rcases hob : (Value.slice va n2 vc).ownBlock with _ | q
    · exact Or.inl rfl
    · right
      have := (o2.lt q hob).1
      simp at this
      simp; omega
  refine bodyPost_ret (v := .agg #[.int .i64 a, .slice va n2 vc]) ?_ ?_ ?_
  rotate_left 2
  · exact ⟨_, rfl, OR, KR⟩
  · simp [results, Tryz.results75, go_sem, r0, r1]
  · rfl
/-- What the modes need of a cipher with a block of 16 octets. -/
def Enc (al : Int) (kv : Value) (key : List UInt8) (f : List UInt8 → List UInt8) : Prop :=
  (∀ l, l.length = 16 → (f l).length = 16) ∧ ∀ W bv blk, Bs W kv key → Bs W bv blk → blk.length = 16 →
    Calls Tryz.prog 98 #[.agg #[.int .i64 al, kv], bv] W fun e w' => ∃ v', e = .returned v' ∧ Own W.heap.size 5 w' v' ((f blk).map cb) ∧ Keep W w'
end Go.Proofs.Qxb6500771aGreat
