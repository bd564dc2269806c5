/- Lengths: KeyOf, SendOf, Served, makes, stretch, SentByAcceptor, forMIC; a variable of the step's type. -/
import Derived.Test.Qxb6500771aGreatIa
import Derived.Test.Qxb6500771aGreatOct
import Derived.Test.Qxb6500771aGreatSmall
import Derived.Deep.MidRow
import Derived.Deep.WholeRow
namespace Go.Proofs.Qxb6500771aGreat
open Go.RowKit Go.Qm
set_option linter.unusedVariables false
set_option linter.unusedSimpArgs false

theorem siz31 : (Tryz.prog.info? 31).map (·.size) = some 16 := by kernel_rfl
theorem wp_alloc31 {o : Oper} {a : Act} {w : World} {K : Act → World → Prop} {Q : Exit → Act → World → Prop} (ho : o.op = .alloc 31)
    (h : ∀ c : Array Value, c.size = 16 → K (a.put o.dst (.pointer (some ⟨w.heap.size, 0, none⟩))) (w.alloc (.cells c 31))) : o.wp Tryz.prog a w K Q := by
  unfold Oper.wp execOp
  simp only [ho]
  simp [go_sem]
  exact h _ rfl
theorem wpList_store_new {P : Program} {ops : Array Oper} {rest : List Oper} {op : Oper} {a : Act} {W : World} {Q : Exit → Act → World → Prop} (hgd : op.guard = none) (ty : TypeId) (x y : Operand) (ho : op.op = .store ty x y)
    (w : World) {c : Array Value} (hW : W = w.alloc (.cells c ty)) (cells : Array Value) (hx : a.eval x = .pointer (some ⟨w.heap.size, 0, none⟩)) (hy : a.eval y = .agg cells)
    (hi : (P.info? ty).map (·.size) = some cells.size) (hc : c.size = cells.size) (h1 : cells.all (·.oneCell') = true)
    (h : wpList P ops Q rest (a.put op.dst undef) (w.alloc (.cells cells ty))) : wpList P ops Q (op :: rest) a W := by
  subst hW
  refine wpList_plain hgd fun _ hK => ?_
  unfold Oper.wp execOp
  simp only [ho, hx, hy, Instr.storeAt, Instr.sureAddr, Sem.run_bind, Sem.run_pure, Result.andThen_ok, run_storeVar_new w ty c cells hi hc h1]
  exact hK _ _ h
/-- A variable of the step's type, made and laid: two operations at once, whatever its cells. -/
theorem wpList_var31 {ops : Array Oper} {rest : List Oper} {o1 o2 : Oper} {a : Act} {w : World} {Q : Exit → Act → World → Prop} (g1 : o1.guard = none) (g2 : o2.guard = none) (h1 : o1.op = .alloc 31) (x y : Operand) (h2 : o2.op = .store 31 x y)
    (cells : Array Value) (hx : (a.put o1.dst (.pointer (some ⟨w.heap.size, 0, none⟩))).eval x = .pointer (some ⟨w.heap.size, 0, none⟩)) (hy : (a.put o1.dst (.pointer (some ⟨w.heap.size, 0, none⟩))).eval y = .agg cells)
    (hs : cells.size = 16) (hone : cells.all (·.oneCell') = true)
    (h : wpList Tryz.prog ops Q rest ((a.put o1.dst (.pointer (some ⟨w.heap.size, 0, none⟩))).put o2.dst undef) (w.alloc (.cells cells 31))) : wpList Tryz.prog ops Q (o1 :: o2 :: rest) a w :=
  wpList_plain g1 fun _ hK => wp_alloc31 h1 fun c hc => hK _ _ (wpList_store_new g2 31 x y h2 w rfl cells hx hy (by rw [hs]; exact siz31) (by omega) hone h)
section
variable (kd e us id f ec rrc sq off nn room fi : Int) (a2 a9 a10 : Option Addr) (n2 c2 n9 c9 n10 c10 : Nat) (fa : Bool) (w : World)
theorem keyOf_c : Calls Tryz.prog 14 #[.agg #[.int .i64 kd, .int .i32 e, .slice a2 n2 c2, .int .u32 us, .int .u16 id, .int .u8 f, .int .u16 ec, .int .u16 rrc, .int .u64 sq, .slice a9 n9 c9, .slice a10 n10 c10, .bool fa, .int .i64 off, .int .i64 nn, .int .i64 room, .int .u8 fi]] w fun x w' =>
    x = .returned (.agg #[.int .i32 e, .slice a2 n2 c2]) ∧ Keep w w' := by
  go_enter Tryz.func14, Tryz.ntmps14
  go_wp2
  refine bodyPost_ret (v := .agg #[.int .i32 e, .slice a2 n2 c2]) (by simp [results, Tryz.results14, go_sem]) rfl ⟨rfl, ((Keep.refl _).alloc _).alloc _⟩
theorem sendOf_c : Calls Tryz.prog 15 #[.agg #[.int .i64 kd, .int .i32 e, .slice a2 n2 c2, .int .u32 us, .int .u16 id, .int .u8 f, .int .u16 ec, .int .u16 rrc, .int .u64 sq, .slice a9 n9 c9, .slice a10 n10 c10, .bool fa, .int .i64 off, .int .i64 nn, .int .i64 room, .int .u8 fi]] w fun x w' =>
    x = .returned (.agg #[.int .u32 us, .int .u8 f, .int .u64 sq, .int .u16 ec, .int .u16 rrc, .slice a9 n9 c9]) ∧ Keep w w' := by
  go_enter Tryz.func15, Tryz.ntmps15
  go_wp2
  refine bodyPost_ret (v := .agg #[.int .u32 us, .int .u8 f, .int .u64 sq, .int .u16 ec, .int .u16 rrc, .slice a9 n9 c9]) (by simp [results, Tryz.results15, go_sem]) rfl ⟨rfl, ((Keep.refl _).alloc _).alloc _⟩
end
theorem served_yes (e : Int) (w : World) (h : srv e) : Calls Tryz.prog 21 #[.int .i32 e] w fun x w' => x = .returned (.bool true) ∧ Keep w w' := by
  unfold srv at h
  rcases h with rfl | rfl | rfl | rfl | rfl | rfl
  all_goals
    go_enter Tryz.func21, Tryz.ntmps21
    go_wp2
    go_ret
    exact ⟨rfl, Keep.refl _⟩
theorem served_no (e : Int) (w : World) (h : ¬ srv e) : Calls Tryz.prog 21 #[.int .i32 e] w fun x w' => x = .returned (.bool false) ∧ Keep w w' := by
  have hh : (e == 17) = false ∧ (e == 18) = false ∧ (e == 19) = false ∧ (e == 20) = false ∧ (e == 25) = false ∧ (e == 26) = false := by
    unfold srv at h
    refine ⟨?_, ?_, ?_, ?_, ?_, ?_⟩ <;> (simp; omega)
  obtain ⟨y1, y2, y3, y4, y5, y6⟩ := hh
  go_enter Tryz.func21, Tryz.ntmps21
  go_wp2
  go_ret
  exact ⟨rfl, Keep.refl _⟩
/-- The kinds that make a token. -/
def mks (k : Int) : Bool := decide (k = 0 ∨ k = 1 ∨ k = 9 ∨ k = 2 ∨ k = 3 ∨ k = 10)
theorem makes_c (k : Int) (w : World) : Calls Tryz.prog 29 #[.int .i64 k] w fun x w' => x = .returned (.bool (mks k)) ∧ Keep w w' := by
  by_cases h : k = 0 ∨ k = 1 ∨ k = 9 ∨ k = 2 ∨ k = 3 ∨ k = 10
  · have HM : Hid (mks k = true) := Hid.mk (decide_eq_true h)
    generalize mks k = b at *
    rcases h with rfl | rfl | rfl | rfl | rfl | rfl
    all_goals
      go_enter Tryz.func29, Tryz.ntmps29
      go_wp2
      go_ret
      exact ⟨by rw [HM.out]; rfl, Keep.refl _⟩
  · have HM : Hid (mks k = false) := Hid.mk (decide_eq_false h)
    generalize mks k = b at *
    have hh : (k == 0) = false ∧ (k == 1) = false ∧ (k == 9) = false ∧ (k == 2) = false ∧ (k == 3) = false ∧ (k == 10) = false := by
      refine ⟨?_, ?_, ?_, ?_, ?_, ?_⟩ <;> (simp; omega)
    obtain ⟨y1, y2, y3, y4, y5, y6⟩ := hh
    go_enter Tryz.func29, Tryz.ntmps29
    go_wp2
    go_ret
    exact ⟨by rw [HM.out]; rfl, Keep.refl _⟩
theorem and1 : ∀ f : Fin 256, bits .and .u8 ((f.val : Nat) : Int) 1 = ((f.val % 2 : Nat) : Int) := by decide +kernel
theorem sentBy_c (f : Nat) (w : World) (hf : f < 256) :
    Calls Tryz.prog 32 #[.int .u8 f] w fun e w' => (∃ b, e = .returned (.bool b)) ∧ Keep w w' := by
  have h := and1 ⟨f, hf⟩
  simp only at h
  go_enter Tryz.func32, Tryz.ntmps32
  go_wp2
  go_ret
  exact ⟨⟨_, rfl⟩, Keep.refl _⟩
/-- What stretch makes. -/
def strF (l : List UInt8) (n : Nat) : List UInt8 := (List.range n).map fun i => l.getD (i % l.length) 0
theorem strF_length (l : List UInt8) (n : Nat) : (strF l n).length = n := by simp [strF]
theorem strF_succ (l : List UInt8) (n : Nat) : strF l (n + 1) = strF l n ++ [l.getD (n % l.length) 0] := by simp [strF, List.range_succ]
set_option maxHeartbeats 800000 in
theorem strt_c (v : Value) (l : List UInt8) (n : Nat) (w : World) (h : Bs w v l) (hl : l.length ≤ 4000000) (hn : n ≤ 4000000) :
    Calls Tryz.prog 30 #[v, .int .i64 n] w fun e w' => ∃ v', e = .returned v' ∧ Own w.heap.size 5 w' v' ((strF l n).map cb) ∧ Keep w w' := by
  obtain ⟨a, c, rfl, hac, hcm, hca⟩ := h.form
  unfold maxLen at hcm
  go_enter Tryz.func30, Tryz.ntmps30
  go_wp2
  go_loopw [5, 6] (fun ov i wr => ∃ k : Nat, k ≤ n ∧ i = .int .i64 k ∧ Own w.heap.size 5 wr ov ((strF l k).map cb) ∧ Keep w wr) (fun _ i _ => n - (intOf i).toNat)
  case atStart => exact ⟨0, by omega, rfl, Own.lit [] (Nat.le_refl _) (by simp), (Keep.refl _).alloc _⟩
  case round =>
    obtain ⟨k, hk, rfl, hown, kw⟩ := hrel
    by_cases hlt : k < n
    · have hlt' : (k : Int) < n := by omega
      have hg : (0 : Int) ≤ k := by omega
      have hkl : ((strF l k).map cb).length = k := by rw [List.length_map, strF_length]
      have HK := Hid.mk hkl
      have HS := Hid.mk (strF_succ l k)
      clear hkl
      by_cases h0 : l.length = 0
      · have hgd : l.getD (k % l.length) 0 = 0 := by rw [List.eq_nil_of_length_eq_zero h0]; rfl
        rw [hgd] at HS
        have h0i : (l.length : Int) = 0 := by omega
        have h0b : ((l.length : Int) == 0) = true := by simpa using h0i
        clear hca h hgd h0 h0i
        go_wp2_with (at_builtin; refine wpList_app (by rfl) _ _ _ (by rfl) Tryz.underlying26 inf5 rfl w.heap.size (hown.alloc _) (Sl.one _) (by simp [Value.oneCell']) (by rfl) (by rfl) (by rw [HK.out]; simp [maxLen]; omega) (by rw [HK.out]; simp; omega) (by have := kw.size; simp; omega) ?_; intro v' w' hown' hgr hob)
        go_roundw
        case rel => exact ⟨k + 1, by omega, by go_num, by rw [HS.out, List.map_append]; exact hown', (kw.alloc _).grown hgr (fun q hq => (hown.lt q hq).1)⟩
        case measure => simp [intOf]; omega
      · have hm : k % l.length < l.length := Nat.mod_lt _ (by omega)
        obtain ⟨b, o, rfl, h1⟩ := hca _ hm
        replace h1 := kw.cell h1
        have hlz : ¬ (l.length : Int) = 0 := by omega
        have hlz2 : ((l.length : Int) == 0) = false := by simpa using hlz
        have htm : (k : Int).tmod (l.length : Int) = ((k % l.length : Nat) : Int) := by rw [Int.tmod_eq_emod_of_nonneg hg]; omega
        have hgd : l.getD (k % l.length) 0 = l[k % l.length] := by rw [List.getD_eq_getElem?_getD, List.getElem?_eq_getElem hm]; rfl
        rw [hgd] at HS
        have HN := Hid.mk hm
        have i1 : ((k % l.length : Nat) : Int) < l.length := by omega
        have i0 : (0 : Int) ≤ ((k % l.length : Nat) : Int) := by omega
        generalize hx : l[k % l.length] = x at *
        clear hx hca h hgd
        generalize hq : k % l.length = q at *
        clear hq hm
        go_wp2_with (at_builtin; refine wpList_app (by rfl) _ _ _ (by rfl) Tryz.underlying26 inf5 rfl w.heap.size (hown.alloc _) (Sl.one _) (by simp [Value.oneCell']) (by rfl) (by rfl) (by rw [HK.out]; simp [maxLen]; omega) (by rw [HK.out]; simp; omega) (by have := kw.size; simp; omega) ?_; intro v' w' hown' hgr hob)
        go_roundw
        case rel => exact ⟨k + 1, by omega, by go_num, by rw [HS.out, List.map_append]; exact hown', (kw.alloc _).grown hgr (fun q hq => (hown.lt q hq).1)⟩
        case measure => simp [intOf]; omega
    · have hlt' : ¬ (k : Int) < n := by omega
      have : k = n := by omega
      subst this
      go_wp2
      go_ret
      exact ⟨_, rfl, hown, kw⟩
section
variable (kd e us id ec rrc sq off nn room fi : Int) (f : Nat) (a2 a9 a10 : Option Addr) (n2 c2 n9 c9 n10 c10 : Nat) (fa : Bool) (w : World)
theorem forMIC_c (hf : f < 256) : Calls Tryz.prog 17 #[.agg #[.int .i64 kd, .int .i32 e, .slice a2 n2 c2, .int .u32 us, .int .u16 id, .int .u8 f, .int .u16 ec, .int .u16 rrc, .int .u64 sq, .slice a9 n9 c9, .slice a10 n10 c10, .bool fa, .int .i64 off, .int .i64 nn, .int .i64 room, .int .u8 fi]] w fun x w' =>
    x = .returned (.agg #[.int .i64 kd, .int .i32 e, .slice a2 n2 c2, .int .u32 us, .int .u16 id, .int .u8 ((f - f / 2 % 2 * 2 : Nat) : Int), .int .u16 0, .int .u16 0, .int .u64 sq, .slice a9 n9 c9, .slice a10 n10 c10, .bool fa, .int .i64 off, .int .i64 nn, .int .i64 room, .int .u8 fi]) ∧ Keep w w' := by
  have h := andNot2 ⟨f, hf⟩
  simp only at h
  generalize f - f / 2 % 2 * 2 = q at *
  go_enter Tryz.func17, Tryz.ntmps17
  go_wp2
  refine bodyPost_ret (v := .agg #[.int .i64 kd, .int .i32 e, .slice a2 n2 c2, .int .u32 us, .int .u16 id, .int .u8 (q : Int), .int .u16 0, .int .u16 0, .int .u64 sq, .slice a9 n9 c9, .slice a10 n10 c10, .bool fa, .int .i64 off, .int .i64 nn, .int .i64 room, .int .u8 fi]) (by simp [results, Tryz.results17, go_sem]) rfl ⟨rfl, ((Keep.refl _).alloc _).alloc _⟩
end
end Go.Proofs.Qxb6500771aGreat
