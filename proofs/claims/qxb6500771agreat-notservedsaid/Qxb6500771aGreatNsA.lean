/- The law NotServed: its walk. -/
import Derived.Test.Qxb6500771aGreatInv
import Derived.Deep.CutRange
import Derived.Deep.MidRow
import Derived.Deep.WholeRow
namespace Go.Proofs.Qxb6500771aGreat
open Go.RowKit Go.Qm
set_option linter.unusedVariables false
set_option linter.unusedSimpArgs false
attribute [local go_sem ↓] Go.wp_at_zero Go.wp_at_succ

theorem siz31 : (Tryz.prog.info? 31).map (·.size) = some 16 := by kernel_rfl
theorem wp_alloc31 {o : Oper} {a : Act} {w : World} {K : Act → World → Prop} {Q : Exit → Act → World → Prop} (ho : o.op = .alloc 31)
    (h : ∀ c : Array Value, c.size = 16 → K (a.put o.dst (.pointer (some ⟨w.heap.size, 0, none⟩))) (w.alloc (.cells c 31))) : o.wp Tryz.prog a w K Q := by
  unfold Oper.wp execOp
  simp only [ho]
  simp [go_sem]
  exact h _ rfl
theorem wpList_store_new {P : Program} {ops : Array Oper} {rest : List Oper} {op : Oper} {a : Act} {W : World} {Q : Exit → Act → World → Prop} (hgd : op.guard = none) (ty : TypeId) (x y : Operand) (ho : op.op = .store ty x y)
    (w : World) {c : Array Value} (hW : W = w.alloc (.cells c ty)) (cells : Array Value) (hx : a.eval x = .pointer (some ⟨w.heap.size, 0, none⟩)) (hy : a.eval y = .agg cells)
    (hi : (P.info? ty).map (·.size) = some cells.size) (hc : c.size = cells.size) (h1 : cells.all (·.oneCell') = true)
    (h : wpList P ops Q rest (a.put op.dst undef) (w.alloc (.cells cells ty))) : wpList P ops Q (op :: rest) a W := by
  subst hW
  refine wpList_plain hgd fun _ hK => ?_
  unfold Oper.wp execOp
  simp only [ho, hx, hy, Instr.storeAt, Instr.sureAddr, Sem.run_bind, Sem.run_pure, Result.andThen_ok, run_storeVar_new w ty c cells hi hc h1]
  exact hK _ _ h
/-- A variable of the step's type, made and laid: two operations at once, whatever its cells. -/
theorem wpList_var31 {ops : Array Oper} {rest : List Oper} {o1 o2 : Oper} {a : Act} {w : World} {Q : Exit → Act → World → Prop} (g1 : o1.guard = none) (g2 : o2.guard = none) (h1 : o1.op = .alloc 31) (x y : Operand) (h2 : o2.op = .store 31 x y)
    (cells : Array Value) (hx : (a.put o1.dst (.pointer (some ⟨w.heap.size, 0, none⟩))).eval x = .pointer (some ⟨w.heap.size, 0, none⟩)) (hy : (a.put o1.dst (.pointer (some ⟨w.heap.size, 0, none⟩))).eval y = .agg cells)
    (hs : cells.size = 16) (hone : cells.all (·.oneCell') = true)
    (h : wpList Tryz.prog ops Q rest ((a.put o1.dst (.pointer (some ⟨w.heap.size, 0, none⟩))).put o2.dst undef) (w.alloc (.cells cells 31))) : wpList Tryz.prog ops Q (o1 :: o2 :: rest) a w :=
  wpList_plain g1 fun _ hK => wp_alloc31 h1 fun c hc => hK _ _ (wpList_store_new g2 31 x y h2 w rfl cells hx hy (by rw [hs]; exact siz31) (by omega) hone h)


/-- The step's cells out of the script. -/
theorem OpAt.lst {w : World} {b q : Nat} {s : OpR} (h : OpAt w b q s) : ∃ (L : List Value) (a2 a9 a10 : Option Addr) (c2 c9 c10 us f ec rrc sq : Nat) (id fi : Int),
    L = [.int .i64 s.kind, .int .i32 s.etype, .slice a2 s.key.length c2, .int .u32 us, .int .u16 id, .int .u8 f, .int .u16 ec, .int .u16 rrc, .int .u64 sq, .slice a9 s.conf.length c9, .slice a10 s.data.length c10, .bool s.fromAcc, .int .i64 s.off, .int .i64 s.n, .int .i64 s.room, .int .u8 fi] ∧
    w.rangeAt b q L := by
  obtain ⟨c0, c1, c2, c3, c4, c5, c6, c7, c8, c9, c10, c11, c12, c13, c14, c15, -, -, hb2, -, r3, r4, r5, r6, r7, r8, hb9, -, hb10, -, r12, r13, r14, r15⟩ := h
  obtain ⟨a2, d2, e2, -, -, -⟩ := hb2.form
  obtain ⟨a9, d9, e9, -, -, -⟩ := hb9.form
  obtain ⟨aD, dD, e10, -, -, -⟩ := hb10.form
  rw [e2] at c2
  rw [e9] at c9
  rw [e10] at c10
  obtain ⟨us, hus⟩ := Int.eq_ofNat_of_zero_le r3.1
  obtain ⟨f, hf⟩ := Int.eq_ofNat_of_zero_le r5.1
  obtain ⟨ec, hec⟩ := Int.eq_ofNat_of_zero_le r6.1
  obtain ⟨rrc, hrrc⟩ := Int.eq_ofNat_of_zero_le r7.1
  obtain ⟨sq, hsq⟩ := Int.eq_ofNat_of_zero_le r8.1
  rw [hus] at c3
  rw [hf] at c5
  rw [hec] at c6
  rw [hrrc] at c7
  rw [hsq] at c8
  refine ⟨_, a2, a9, aD, d2, d9, dD, us, f, ec, rrc, sq, s.id, s.fill, rfl, ?_⟩
  intro j v hv
  match j, hv with
  | 0, hv => simp at hv; subst hv; exact c0
  | 1, hv => simp at hv; subst hv; exact c1
  | 2, hv => simp at hv; subst hv; exact c2
  | 3, hv => simp at hv; subst hv; exact c3
  | 4, hv => simp at hv; subst hv; exact c4
  | 5, hv => simp at hv; subst hv; exact c5
  | 6, hv => simp at hv; subst hv; exact c6
  | 7, hv => simp at hv; subst hv; exact c7
  | 8, hv => simp at hv; subst hv; exact c8
  | 9, hv => simp at hv; subst hv; exact c9
  | 10, hv => simp at hv; subst hv; exact c10
  | 11, hv => simp at hv; subst hv; exact c11
  | 12, hv => simp at hv; subst hv; exact c12
  | 13, hv => simp at hv; subst hv; exact c13
  | 14, hv => simp at hv; subst hv; exact c14
  | 15, hv => simp at hv; subst hv; exact c15
  | j + 16, hv => simp at hv
end Go.Proofs.Qxb6500771aGreat
