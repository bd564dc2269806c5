/- What a token call checks before it makes anything: encryption type, key length, flags, length. -/
import Derived.Test.Qxb6500771aGreatArr
import Derived.Laws.Tables
import Derived.Laws.Rows
namespace Go.Qm
open Go Go.RowKit
theorem wpList_store_rowN {P : Program} {ops : Array Oper} {rest : List Oper} {o : Oper} {a : Act} {w : World} {Q : Exit → Act → World → Prop} (hgd : o.guard = none) (ty : TypeId) (x y : Operand) (ho : o.op = .store ty x y)
    (g : Nat) (cells : Array Value) (hx : a.eval x = .pointer (some ⟨g, 0, none⟩)) (hy : a.eval y = .agg cells) (n : Nat)
    (t : TypeId) (old : Array Value) (hg : w.heap[g]? = some (.cells old t (0, 0))) (hi : (P.info? ty).map (·.size) = some n) (hn : cells.size = n)
    (hold : old.size = n) (h1 : cells.all (·.oneCell') = true)
    (h : wpList P ops Q rest (a.put o.dst undef) (w.setRow g cells)) : wpList P ops Q (o :: rest) a w :=
  wpList_store_row hgd ty x y ho g cells hx hy t old hg (by rw [hn]; exact hi) (by rw [hn]; exact hold) h1 h
end Go.Qm
namespace Go.Proofs.Qxb6500771aGreat
open Go.RowKit Go.Qm
set_option linter.unusedVariables false
set_option linter.unusedSimpArgs false
attribute [local go_sem ↓] Go.wp_at_zero Go.wp_at_succ

theorem bne_t {a b : Int} (h : a ≠ b) : (a != b) = true := by simpa using h
theorem bne_f {a b : Int} (h : a = b) : (a != b) = false := by simpa using h
/-- The lengths of an encryption type. -/
def kl (e : Int) : Nat := if e = 17 ∨ e = 19 ∨ e = 25 then 16 else if e = 18 ∨ e = 20 ∨ e = 26 then 32 else 0
def cl (e : Int) : Nat := if e = 17 ∨ e = 18 then 12 else if e = 19 ∨ e = 25 ∨ e = 26 then 16 else if e = 20 then 24 else 0
def srv (e : Int) : Prop := e = 17 ∨ e = 18 ∨ e = 19 ∨ e = 20 ∨ e = 25 ∨ e = 26
theorem et_cases (e : Int) : e = 17 ∨ e = 18 ∨ e = 19 ∨ e = 20 ∨ e = 25 ∨ e = 26 ∨ (¬ srv e ∧ kl e = 0 ∧ cl e = 0 ∧ (e == 17) = false ∧ (e == 18) = false ∧ (e == 19) = false ∧ (e == 20) = false ∧ (e == 25) = false ∧ (e == 26) = false) := by
  by_cases h : srv e
  · unfold srv at h; omega
  · refine Or.inr (Or.inr (Or.inr (Or.inr (Or.inr (Or.inr ⟨h, ?_⟩)))))
    unfold srv at h
    refine ⟨?_, ?_, ?_, ?_, ?_, ?_, ?_, ?_⟩
    · unfold kl; rw [if_neg (by omega), if_neg (by omega)]
    · unfold cl; rw [if_neg (by omega), if_neg (by omega), if_neg (by omega)]
    all_goals (simp; omega)
theorem kl_le (e : Int) : kl e ≤ 32 := by unfold kl; split <;> (try split) <;> omega
theorem cl_le (e : Int) : cl e ≤ 24 := by unfold cl; split <;> (try split) <;> (try split) <;> omega
theorem keyLen_c (e : Int) (w : World) : Calls Tryz.prog 22 #[.int .i32 e] w fun x w' => x = .returned (.int .i64 (kl e)) ∧ Keep w w' := by
  rcases et_cases e with rfl | rfl | rfl | rfl | rfl | rfl | ⟨-, hk, -, y1, y2, y3, y4, y5, y6⟩
  · go_enter Tryz.func22, Tryz.ntmps22; go_wp2; go_ret; exact ⟨rfl, Keep.refl _⟩
  · go_enter Tryz.func22, Tryz.ntmps22; go_wp2; go_ret; exact ⟨rfl, Keep.refl _⟩
  · go_enter Tryz.func22, Tryz.ntmps22; go_wp2; go_ret; exact ⟨rfl, Keep.refl _⟩
  · go_enter Tryz.func22, Tryz.ntmps22; go_wp2; go_ret; exact ⟨rfl, Keep.refl _⟩
  · go_enter Tryz.func22, Tryz.ntmps22; go_wp2; go_ret; exact ⟨rfl, Keep.refl _⟩
  · go_enter Tryz.func22, Tryz.ntmps22; go_wp2; go_ret; exact ⟨rfl, Keep.refl _⟩
  · rw [hk]; clear hk; go_enter Tryz.func22, Tryz.ntmps22; go_wp2; go_ret; exact ⟨rfl, Keep.refl _⟩
theorem checksumLen_c (e : Int) (w : World) : Calls Tryz.prog 19 #[.int .i32 e] w fun x w' => x = .returned (.int .i64 (cl e)) ∧ Keep w w' := by
  rcases et_cases e with rfl | rfl | rfl | rfl | rfl | rfl | ⟨-, -, hk, y1, y2, y3, y4, y5, y6⟩
  · go_enter Tryz.func19, Tryz.ntmps19; go_wp2; go_ret; exact ⟨rfl, Keep.refl _⟩
  · go_enter Tryz.func19, Tryz.ntmps19; go_wp2; go_ret; exact ⟨rfl, Keep.refl _⟩
  · go_enter Tryz.func19, Tryz.ntmps19; go_wp2; go_ret; exact ⟨rfl, Keep.refl _⟩
  · go_enter Tryz.func19, Tryz.ntmps19; go_wp2; go_ret; exact ⟨rfl, Keep.refl _⟩
  · go_enter Tryz.func19, Tryz.ntmps19; go_wp2; go_ret; exact ⟨rfl, Keep.refl _⟩
  · go_enter Tryz.func19, Tryz.ntmps19; go_wp2; go_ret; exact ⟨rfl, Keep.refl _⟩
  · rw [hk]; clear hk; go_enter Tryz.func19, Tryz.ntmps19; go_wp2; go_ret; exact ⟨rfl, Keep.refl _⟩
theorem kl_srv {e : Int} (h : srv e) : 16 ≤ kl e := by
  unfold srv at h; rcases h with rfl | rfl | rfl | rfl | rfl | rfl <;> decide
theorem kl_not {e : Int} (h : ¬ srv e) : kl e = 0 := by
  rcases et_cases e with rfl | rfl | rfl | rfl | rfl | rfl | ⟨-, hk, -⟩
  · exact absurd (by unfold srv; omega) h
  · exact absurd (by unfold srv; omega) h
  · exact absurd (by unfold srv; omega) h
  · exact absurd (by unfold srv; omega) h
  · exact absurd (by unfold srv; omega) h
  · exact absurd (by unfold srv; omega) h
  · exact hk
theorem confounderLen_c (e : Int) (w : World) (h : srv e) : Calls Tryz.prog 31 #[.int .i32 e] w fun x w' => x = .returned (.int .i64 16) ∧ Keep w w' := by
  have hk := kl_srv h
  have y : ((kl e : Int) == 0) = false := by simp; omega
  go_enter Tryz.func31, Tryz.ntmps31
  go_wp2_with fail
  refine (keyLen_c e _).mono ?_
  rintro x w1 ⟨rfl, k1⟩
  go_wp2
  go_ret
  exact ⟨rfl, k1⟩
theorem s69 : (Tryz.prog.info? 69).map (·.size) = some 3 := by kernel_rfl
theorem sizesOf_ok (e : Int) (w : World) (h : srv e) : Calls Tryz.prog 37 #[.int .i32 e] w fun x w' => x = .returned (.tuple #[.agg #[.int .i64 (kl e), .int .i64 16, .int .i64 (cl e)], .int .i64 0]) ∧ Keep w w' := by
  have A0 := Arr.new w 69 [.int .i64 0, .int .i64 0, .int .i64 0]
  have K0 := (Keep.refl w).alloc (.cells [.int .i64 0, .int .i64 0, .int .i64 0].toArray 69)
  have CK := fun W => keyLen_c e W
  have CC := fun W => confounderLen_c e W h
  have CS := fun W => checksumLen_c e W
  generalize kl e = a at *
  generalize cl e = b at *
  go_enter Tryz.func37, Tryz.ntmps37
  unfold srv at h
  rcases h with rfl | rfl | rfl | rfl | rfl | rfl
  all_goals
    go_wp2_with fail
    refine (CK _).mono ?_
    rintro x w1 ⟨rfl, k1⟩
    go_wp2_with fail
    refine (CC _).mono ?_
    rintro x w2 ⟨rfl, k2⟩
    go_wp2_with fail
    refine (CS _).mono ?_
    rintro x w3 ⟨rfl, k3⟩
    have K3 := k1.trans (k2.trans k3)
    have A3 := A0.keep K3
    go_wp2_with (refine wpList_store_rowN (by rfl) 69 (.tmp 2) (.tmp 18) (by rfl) w.heap.size [.int .i64 a, .int .i64 16, .int .i64 b].toArray (by rfl) (by rfl) 3 69 _ A3 s69 (by rfl) (by rfl) (by simp [Value.oneCell']) ?_)
    have AR := A3.row [.int .i64 a, .int .i64 16, .int .i64 b]
    have r0 := AR.cell 0
    have r1 := AR.cell 1
    have r2 := AR.cell 2
    simp only [List.getElem?_cons_zero, List.getElem?_cons_succ] at r0 r1 r2
    refine bodyPost_ret (v := .tuple #[.agg #[.int .i64 a, .int .i64 16, .int .i64 b], .int .i64 0]) (by simp [results, Tryz.results37, go_sem, r0, r1, r2]) rfl ⟨rfl, (K0.trans K3).setRow (Nat.le_refl _) _⟩
theorem sizesOf_bad (e : Int) (w : World) (h : ¬ srv e) : Calls Tryz.prog 37 #[.int .i32 e] w fun x w' => x = .returned (.tuple #[.agg #[.int .i64 0, .int .i64 0, .int .i64 0], .int .i64 1]) ∧ Keep w w' := by
  have hh : (e == 17) = false ∧ (e == 18) = false ∧ (e == 19) = false ∧ (e == 20) = false ∧ (e == 25) = false ∧ (e == 26) = false := by
    unfold srv at h
    refine ⟨?_, ?_, ?_, ?_, ?_, ?_⟩ <;> (simp; omega)
  obtain ⟨y1, y2, y3, y4, y5, y6⟩ := hh
  go_enter Tryz.func37, Tryz.ntmps37
  go_wp2
  refine bodyPost_ret (v := .tuple #[.agg #[.int .i64 0, .int .i64 0, .int .i64 0], .int .i64 1]) (by simp [results, Tryz.results37, go_sem]) rfl ⟨rfl, (Keep.refl w).alloc _⟩
end Go.Proofs.Qxb6500771aGreat
