/- Region 11 of the law: three calls, three variables, three stores in any order. -/
import Derived.Test.Qxb6500771aGreatNsA
namespace Go.Qm
open Go Go.RowKit
theorem get_put (a : Act) (d n : Nat) (v : Value) : (a.put (some d) v).tmps[n]? = if d = n then (if d < a.tmps.size then some v else none) else a.tmps[n]? := by
  simp only [Act.put, Array.getElem?_setIfInBounds]
theorem size_put (a : Act) (d : Option Nat) (v : Value) : (a.put d v).tmps.size = a.tmps.size := by
  cases d <;> simp [Act.put]
theorem defers_put (a : Act) (d : Option Nat) (v : Value) : (a.put d v).defers = a.defers := by
  cases d <;> rfl
theorem eval_of {a : Act} {n : Nat} {v : Value} (h : a.tmps[n]? = some v) : a.eval (.tmp n) = v := by
  simp [Act.eval, Array.getD_eq_getD_getElem?, h]
theorem wpOp_of {P : Program} {ops : Array Oper} {Q : Exit → Act → World → Prop} {i : Nat} {K : Act → World → Prop} {a : Act} {w : World} (o : Oper) (ho : ops[i]? = some o) (hg : o.guard = none) (h : o.wp P a w K Q) : wpOp P ops Q i K a w := by
  unfold wpOp
  rw [ho]
  have : Region.wanted o (yielded ops a.tmps) = true := by simp [Region.wanted, hg]
  simp only [this, if_true]
  exact Or.inl h
theorem Arr.other {w : World} {g g' : Nat} {t t' : TypeId} {cs cs' : List Value} (h : Arr w g t cs) (h' : Arr w g' t' cs') (ht : t ≠ t') (zs : Array Value) : Arr (w.setRow g' zs) g t cs := by
  have hne : g ≠ g' := by
    rintro rfl
    unfold Arr at h h'
    rw [h] at h'
    simp at h'
    exact ht h'.2
  unfold Arr
  rw [setRow_other w g' g zs hne]
  exact h
end Go.Qm
namespace Go.Proofs.Qxb6500771aGreat
open Go Go.RowKit Go.Qm
set_option linter.unusedVariables false
set_option linter.unusedSimpArgs false
def ops11 : Array Oper := #[{ dst := some 41, op := Op.load 31 (Operand.tmp 4), type := 31, pos := "laws.go:492", after := #[], guard := none }, { dst := some 42, op := Op.call { callee := Callee.value (Operand.func 14), args := #[Operand.tmp 41], argTypes := #[31] }, type := 43, pos := "laws.go:492", after := #[{ on := 0, ground := Ground.data }], guard := none }, { dst := some 43, op := Op.load 31 (Operand.tmp 4), type := 31, pos := "laws.go:492", after := #[], guard := none }, { dst := some 44, op := Op.call { callee := Callee.value (Operand.func 15), args := #[Operand.tmp 43], argTypes := #[31] }, type := 46, pos := "laws.go:492", after := #[{ on := 2, ground := Ground.data }, { on := 1, ground := Ground.chain }], guard := none }, { dst := some 45, op := Op.load 31 (Operand.tmp 4), type := 31, pos := "laws.go:492", after := #[], guard := none }, { dst := some 46, op := Op.call { callee := Callee.value (Operand.func 23), args := #[Operand.tmp 45], argTypes := #[31] }, type := 53, pos := "laws.go:492", after := #[{ on := 4, ground := Ground.data }, { on := 3, ground := Ground.chain }], guard := none }, { dst := some 6, op := Op.alloc 43, type := 0, pos := "laws.go:492", after := #[], guard := none }, { dst := some 7, op := Op.alloc 46, type := 0, pos := "laws.go:492", after := #[], guard := none }, { dst := some 8, op := Op.alloc 53, type := 0, pos := "laws.go:492", after := #[], guard := none }, { dst := none, op := Op.store 43 (Operand.tmp 6) (Operand.tmp 42), type := 0, pos := "laws.go:492", after := #[{ on := 6, ground := Ground.data }, { on := 1, ground := Ground.data }, { on := 5, ground := Ground.chain }, { on := 0, ground := Ground.phase }, { on := 1, ground := Ground.phase }, { on := 2, ground := Ground.textOnly Departure.lateStores }, { on := 3, ground := Ground.textOnly Departure.lateStoresUnsure }, { on := 4, ground := Ground.textOnly Departure.lateStores }, { on := 5, ground := Ground.textOnly Departure.lateStoresUnsure }, { on := 6, ground := Ground.phase }, { on := 7, ground := Ground.phase }, { on := 8, ground := Ground.phase }], guard := none }, { dst := none, op := Op.store 46 (Operand.tmp 7) (Operand.tmp 44), type := 0, pos := "laws.go:492", after := #[{ on := 7, ground := Ground.data }, { on := 3, ground := Ground.data }, { on := 9, ground := Ground.chain }, { on := 0, ground := Ground.phase }, { on := 1, ground := Ground.phase }, { on := 2, ground := Ground.phase }, { on := 3, ground := Ground.phase }, { on := 4, ground := Ground.textOnly Departure.lateStores }, { on := 5, ground := Ground.textOnly Departure.lateStoresUnsure }, { on := 6, ground := Ground.phase }, { on := 7, ground := Ground.phase }, { on := 8, ground := Ground.phase }, { on := 9, ground := Ground.phase }], guard := none }, { dst := none, op := Op.store 53 (Operand.tmp 8) (Operand.tmp 46), type := 0, pos := "laws.go:492", after := #[{ on := 8, ground := Ground.data }, { on := 5, ground := Ground.data }, { on := 10, ground := Ground.chain }, { on := 0, ground := Ground.phase }, { on := 1, ground := Ground.phase }, { on := 2, ground := Ground.phase }, { on := 3, ground := Ground.phase }, { on := 4, ground := Ground.phase }, { on := 5, ground := Ground.phase }, { on := 6, ground := Ground.phase }, { on := 7, ground := Ground.phase }, { on := 8, ground := Ground.phase }, { on := 9, ground := Ground.phase }, { on := 10, ground := Ground.phase }], guard := none }]

/-- The slots that the region fills: operation, slot, value. -/
def vals (L KV SV EV : List Value) : List (Nat × Nat × Value) := [(0, 41, .agg L.toArray), (1, 42, .agg KV.toArray), (2, 43, .agg L.toArray), (3, 44, .agg SV.toArray), (4, 45, .agg L.toArray), (5, 46, .agg EV.toArray)]
/-- Its variables: alloc, store, slot, type, value. -/
def vars (KV SV EV : List Value) : List (Nat × Nat × Nat × Nat × List Value) := [(6, 9, 6, 43, KV), (7, 10, 7, 46, SV), (8, 11, 8, 53, EV)]
def filled : List Nat := [41, 42, 43, 44, 45, 46, 6, 7, 8]
structure I11 (a0 : Act) (w0 : World) (L KV SV EV : List Value) (listed : Array Bool) (a : Act) (w : World) : Prop where
  ls : listed.size = 12
  df : a.defers = a0.defers
  sz : a.tmps.size = 108
  ot : ∀ n, n ∉ filled → a.tmps[n]? = a0.tmps[n]?
  kp : Keep w0 w
  vl : ∀ x ∈ vals L KV SV EV, listed[x.1]? = some true → a.tmps[x.2.1]? = some x.2.2
  od : ∀ x ∈ vars KV SV EV, listed[x.2.1]? = some true → listed[x.1]? = some true
  vr : ∀ x ∈ vars KV SV EV, listed[x.1]? = some true → ∃ p cs, a.tmps[x.2.2.1]? = some (.pointer (some ⟨p, 0, none⟩)) ∧ w0.heap.size ≤ p ∧ Arr w p x.2.2.2.1 cs ∧ cs.length = x.2.2.2.2.length ∧ (listed[x.2.1]? = some true → cs = x.2.2.2.2)
section
variable {a0 : Act} {w0 : World} {L KV SV EV : List Value} {listed : Array Bool} {a : Act} {w : World}
theorem set_ls (i j : Nat) : (listed.setIfInBounds i true)[j]? = if i = j then (if i < listed.size then some true else none) else listed[j]? := Array.getElem?_setIfInBounds
theorem I11.val (h : I11 a0 w0 L KV SV EV listed a w) {x : Nat × Nat × Value} (hx : x ∈ vals L KV SV EV) {w' : World} (hk : Keep w w') :
    I11 a0 w0 L KV SV EV (listed.setIfInBounds x.1 true) (a.put (some x.2.1) x.2.2) w' := by
  refine ⟨by simpa using h.ls, by rw [defers_put]; exact h.df, by rw [size_put]; exact h.sz, ?_, h.kp.trans hk, ?_, ?_, ?_⟩
  · intro n hn
    rw [get_put, if_neg, h.ot n hn]
    rintro rfl
    simp only [vals, List.mem_cons, List.not_mem_nil, or_false] at hx
    rcases hx with rfl | rfl | rfl | rfl | rfl | rfl <;> simp [filled] at hn
  · intro y hy hl
    rw [set_ls] at hl
    rw [get_put, h.sz]
    have hv := h.vl y hy
    simp only [vals, List.mem_cons, List.not_mem_nil, or_false] at hx hy
    rcases hx with rfl | rfl | rfl | rfl | rfl | rfl <;> rcases hy with rfl | rfl | rfl | rfl | rfl | rfl <;> first | (simp; done) | (simp at hl hv ⊢; exact hv hl)
  · intro y hy hl
    have hv := h.od y hy
    rw [set_ls] at hl ⊢
    simp only [vals, List.mem_cons, List.not_mem_nil, or_false] at hx
    simp only [vars, List.mem_cons, List.not_mem_nil, or_false] at hy
    rcases hx with rfl | rfl | rfl | rfl | rfl | rfl <;> rcases hy with rfl | rfl | rfl <;> (simp at hl hv ⊢; exact hv hl)
  · intro y hy hl
    have hv := h.vr y hy
    rw [set_ls] at hl ⊢
    rw [get_put, h.sz]
    simp only [vals, List.mem_cons, List.not_mem_nil, or_false] at hx
    simp only [vars, List.mem_cons, List.not_mem_nil, or_false] at hy
    rcases hx with rfl | rfl | rfl | rfl | rfl | rfl <;> rcases hy with rfl | rfl | rfl <;> (simp at hl hv ⊢; obtain ⟨p, h1, h2, cs, h3, h4, h5⟩ := hv hl; exact ⟨p, h1, h2, cs, h3.keep hk, h4, h5⟩)
theorem I11.var (h : I11 a0 w0 L KV SV EV listed a w) {x : Nat × Nat × Nat × Nat × List Value} (hx : x ∈ vars KV SV EV) (hn0 : listed[x.1]? ≠ some true) (cs : List Value) (hc : cs.length = x.2.2.2.2.length) :
    I11 a0 w0 L KV SV EV (listed.setIfInBounds x.1 true) (a.put (some x.2.2.1) (.pointer (some ⟨w.heap.size, 0, none⟩))) (w.alloc (.cells cs.toArray x.2.2.2.1)) := by
  have hk := (Keep.refl w).alloc (.cells cs.toArray x.2.2.2.1)
  have hn : listed[x.2.1]? ≠ some true := fun e => hn0 (h.od x hx e)
  refine ⟨by simpa using h.ls, by rw [defers_put]; exact h.df, by rw [size_put]; exact h.sz, ?_, h.kp.alloc _, ?_, ?_, ?_⟩
  · intro n hn
    rw [get_put, if_neg, h.ot n hn]
    rintro rfl
    simp only [vars, List.mem_cons, List.not_mem_nil, or_false] at hx
    rcases hx with rfl | rfl | rfl <;> simp [filled] at hn
  · intro y hy hl
    rw [set_ls] at hl
    rw [get_put, h.sz]
    have hv := h.vl y hy
    simp only [vals, List.mem_cons, List.not_mem_nil, or_false] at hy
    simp only [vars, List.mem_cons, List.not_mem_nil, or_false] at hx
    rcases hx with rfl | rfl | rfl <;> rcases hy with rfl | rfl | rfl | rfl | rfl | rfl <;> (simp at hl hv ⊢; exact hv hl)
  · intro y hy hl
    have hv := h.od y hy
    have hls := h.ls
    rw [set_ls] at hl ⊢
    simp only [vars, List.mem_cons, List.not_mem_nil, or_false] at hx hy
    rcases hx with rfl | rfl | rfl <;> rcases hy with rfl | rfl | rfl <;> simp [hls] at hl hv ⊢ <;> exact hv hl
  · intro y hy hl
    have hv := h.vr y hy
    have hA := Arr.new w x.2.2.2.1 cs
    have hsz := h.kp.size
    rw [set_ls] at hl ⊢
    rw [get_put, h.sz]
    simp only [vars, List.mem_cons, List.not_mem_nil, or_false] at hx hy
    rcases hx with rfl | rfl | rfl <;> rcases hy with rfl | rfl | rfl <;> simp at hl hv hn hA ⊢ <;> first | exact ⟨_, rfl, hsz, cs, hA, hc, fun he => absurd he hn⟩ | exact ⟨hsz, cs, hA, hc, fun he => absurd he hn⟩ | (obtain ⟨p, h1, h2, cs, h3, h4, h5⟩ := hv hl; exact ⟨p, h1, h2, cs, h3.keep hk, h4, h5⟩)
theorem I11.store (h : I11 a0 w0 L KV SV EV listed a w) {x : Nat × Nat × Nat × Nat × List Value} (hx : x ∈ vars KV SV EV) (hal : listed[x.1]? = some true) {p : Nat} {cs : List Value} (hp : a.tmps[x.2.2.1]? = some (.pointer (some ⟨p, 0, none⟩))) (hp0 : w0.heap.size ≤ p) (hA : Arr w p x.2.2.2.1 cs) :
    I11 a0 w0 L KV SV EV (listed.setIfInBounds x.2.1 true) (a.put none undef) (w.setRow p x.2.2.2.2.toArray) := by
  have hR := hA.row x.2.2.2.2
  refine ⟨by simpa using h.ls, h.df, h.sz, h.ot, h.kp.setRow hp0 _, ?_, ?_, ?_⟩
  · intro y hy hl
    rw [set_ls] at hl
    have hv := h.vl y hy
    simp only [vals, List.mem_cons, List.not_mem_nil, or_false] at hy
    simp only [vars, List.mem_cons, List.not_mem_nil, or_false] at hx
    rcases hx with rfl | rfl | rfl <;> rcases hy with rfl | rfl | rfl | rfl | rfl | rfl <;> (simp at hl hv ⊢; exact hv hl)
  · intro y hy hl
    have hv := h.od y hy
    have hls := h.ls
    rw [set_ls] at hl ⊢
    simp only [vars, List.mem_cons, List.not_mem_nil, or_false] at hx hy
    rcases hx with rfl | rfl | rfl <;> rcases hy with rfl | rfl | rfl <;> simp [hls] at hl hv hal ⊢ <;> first | exact hal | exact hv hl
  · intro y hy hl
    have hv := h.vr y hy
    rw [set_ls] at hl ⊢
    simp only [vars, List.mem_cons, List.not_mem_nil, or_false] at hx hy
    rcases hx with rfl | rfl | rfl <;> rcases hy with rfl | rfl | rfl <;> simp at hl hv hp hA hR ⊢ <;> first
      | exact ⟨p, hp, hp0, _, hR, rfl, fun _ => rfl⟩
      | (obtain ⟨p', h1, h2, cs', h3, h4, h5⟩ := hv hl; exact ⟨p', h1, h2, cs', h3.other hA (by decide) _, h4, h5⟩)
end
def dep : Nat → List Nat
  | 1 => [0]
  | 3 => [2]
  | 5 => [4]
  | 9 => [6, 1]
  | 10 => [7, 3]
  | 11 => [8, 5]
  | _ => []
theorem rd11 (listed : Array Bool) (hs : listed.size = 12) : (Region.ready .any ops11 listed = [] → ∀ i < 12, listed[i]? = some true) ∧
    ∀ i ∈ Region.ready .any ops11 listed, i < 12 ∧ listed[i]? = some false ∧ ∀ j ∈ dep i, listed[j]? = some true := by
  obtain ⟨l⟩ := listed
  match l, hs with
  | [b0, b1, b2, b3, b4, b5, b6, b7, b8, b9, b10, b11], _ =>
    constructor
    · intro h
      unfold Region.ready at h
      rw [List.filter_eq_nil_iff] at h
      have g0 := h 0 (by simp [ops11]); simp [ops11, Region.binds] at g0; subst g0
      have g2 := h 2 (by simp [ops11]); simp [ops11, Region.binds] at g2; subst g2
      have g4 := h 4 (by simp [ops11]); simp [ops11, Region.binds] at g4; subst g4
      have g6 := h 6 (by simp [ops11]); simp [ops11, Region.binds] at g6; subst g6
      have g7 := h 7 (by simp [ops11]); simp [ops11, Region.binds] at g7; subst g7
      have g8 := h 8 (by simp [ops11]); simp [ops11, Region.binds] at g8; subst g8
      have g1 := h 1 (by simp [ops11]); simp [ops11, Region.binds] at g1; subst g1
      have g3 := h 3 (by simp [ops11]); simp [ops11, Region.binds] at g3; subst g3
      have g5 := h 5 (by simp [ops11]); simp [ops11, Region.binds] at g5; subst g5
      have g9 := h 9 (by simp [ops11]); simp [ops11, Region.binds] at g9; subst g9
      have g10 := h 10 (by simp [ops11]); simp [ops11, Region.binds] at g10; subst g10
      have g11 := h 11 (by simp [ops11]); simp [ops11, Region.binds] at g11; subst g11
      intro i hi
      obtain rfl | rfl | rfl | rfl | rfl | rfl | rfl | rfl | rfl | rfl | rfl | rfl : i = 0 ∨ i = 1 ∨ i = 2 ∨ i = 3 ∨ i = 4 ∨ i = 5 ∨ i = 6 ∨ i = 7 ∨ i = 8 ∨ i = 9 ∨ i = 10 ∨ i = 11 := by omega
      all_goals rfl
    · intro i hi
      unfold Region.ready at hi
      rw [List.mem_filter] at hi
      obtain ⟨h1, h2⟩ := hi
      have hi12 : i < 12 := by simpa [ops11] using h1
      clear h1
      obtain rfl | rfl | rfl | rfl | rfl | rfl | rfl | rfl | rfl | rfl | rfl | rfl : i = 0 ∨ i = 1 ∨ i = 2 ∨ i = 3 ∨ i = 4 ∨ i = 5 ∨ i = 6 ∨ i = 7 ∨ i = 8 ∨ i = 9 ∨ i = 10 ∨ i = 11 := by omega
      all_goals (simp [ops11, Region.binds] at h2; simp [dep, h2])
theorem wp_call1 {o : Oper} {a : Act} {w : World} {K : Act → World → Prop} {Q : Exit → Act → World → Prop} (f : FuncId) (x : Operand) (ts : Array TypeId) (ho : o.op = .call ⟨.value (.func f), #[x], ts⟩) (fn : Func) (hf : Tryz.prog.funcs[f]? = some fn)
    (hn : (fn.name == "runtime.NumGoroutine") = false) (hb : fn.body.isNone = false) (v : Value) (hx : a.eval x = v)
    (H : Calls Tryz.prog f #[v] w fun e w' => ∃ r, e = .returned r ∧ K (a.put o.dst r) w') : o.wp Tryz.prog a w K Q := by
  have e0 : a.eval (.func f) = .func (.func f) #[] #[] := rfl
  have e1 : (#[] ++ Array.map a.eval #[x] ++ #[] : Array Value) = #[v] := by simp [hx]
  unfold Oper.wp execOp
  simp only [ho]
  simp only [resolve, e0, Deferred.ofValue, invoke, callFunc, Sem.run_bind, Sem.run_pure, Result.andThen_ok, run_program, hf, hn, hb, e1]
  simp only [if_false, Bool.false_eq_true, Sem.run_pure]
  refine H.mono ?_
  rintro e w' ⟨r, rfl, hr⟩
  exact hr
theorem wp_alloc43 {o : Oper} {a : Act} {w : World} {K : Act → World → Prop} {Q : Exit → Act → World → Prop} (ho : o.op = .alloc 43)
    (h : ∀ c : List Value, c.length = 2 → K (a.put o.dst (.pointer (some ⟨w.heap.size, 0, none⟩))) (w.alloc (.cells c.toArray 43))) : o.wp Tryz.prog a w K Q := by
  unfold Oper.wp execOp
  simp only [ho]
  simp [go_sem]
  exact h [_, _] rfl
theorem wp_alloc46 {o : Oper} {a : Act} {w : World} {K : Act → World → Prop} {Q : Exit → Act → World → Prop} (ho : o.op = .alloc 46)
    (h : ∀ c : List Value, c.length = 6 → K (a.put o.dst (.pointer (some ⟨w.heap.size, 0, none⟩))) (w.alloc (.cells c.toArray 46))) : o.wp Tryz.prog a w K Q := by
  unfold Oper.wp execOp
  simp only [ho]
  simp [go_sem]
  exact h [_, _, _, _, _, _] rfl
theorem wp_alloc53 {o : Oper} {a : Act} {w : World} {K : Act → World → Prop} {Q : Exit → Act → World → Prop} (ho : o.op = .alloc 53)
    (h : ∀ c : List Value, c.length = 2 → K (a.put o.dst (.pointer (some ⟨w.heap.size, 0, none⟩))) (w.alloc (.cells c.toArray 53))) : o.wp Tryz.prog a w K Q := by
  unfold Oper.wp execOp
  simp only [ho]
  simp [go_sem]
  exact h [_, _] rfl
theorem siz43 : (Tryz.prog.info? 43).map (·.size) = some 2 := by kernel_rfl
theorem siz46 : (Tryz.prog.info? 46).map (·.size) = some 6 := by kernel_rfl
theorem siz53 : (Tryz.prog.info? 53).map (·.size) = some 2 := by kernel_rfl
theorem Arr.range {w : World} {g : Nat} {t : TypeId} {cs : List Value} (h : Arr w g t cs) : w.rangeAt g 0 cs := by
  intro j v hv
  rw [Nat.zero_add, h.cell j]
  exact hv
/-- The frame at the region's end. -/
def fr11 (a0 : Act) (v41 v42 v44 v46 v6 v7 v8 : Value) : Act :=
  ((((((((a0.put (some 41) v41).put (some 42) v42).put (some 43) v41).put (some 44) v44).put (some 45) v41).put (some 46) v46).put (some 6) v6).put (some 7) v7).put (some 8) v8
theorem fr11_eq {a0 a : Act} {v41 v42 v44 v46 v6 v7 v8 : Value} (h0 : a0.tmps.size = 108) (h : a.tmps.size = 108) (hd : a.defers = a0.defers) (ho : ∀ n, n ∉ filled → a.tmps[n]? = a0.tmps[n]?)
    (h41 : a.tmps[41]? = some v41) (h42 : a.tmps[42]? = some v42) (h43 : a.tmps[43]? = some v41) (h44 : a.tmps[44]? = some v44) (h45 : a.tmps[45]? = some v41) (h46 : a.tmps[46]? = some v46) (h6 : a.tmps[6]? = some v6) (h7 : a.tmps[7]? = some v7) (h8 : a.tmps[8]? = some v8) :
    a = fr11 a0 v41 v42 v44 v46 v6 v7 v8 := by
  have e : (fr11 a0 v41 v42 v44 v46 v6 v7 v8).defers = a.defers := by simp only [fr11, defers_put]; exact hd.symm
  have e2 : a.tmps = (fr11 a0 v41 v42 v44 v46 v6 v7 v8).tmps := by
    apply Array.ext_getElem?
    intro i
    unfold fr11
    by_cases hi : i ∈ filled
    · simp only [filled, List.mem_cons, List.not_mem_nil, or_false] at hi
      rcases hi with rfl | rfl | rfl | rfl | rfl | rfl | rfl | rfl | rfl
      · rw [get_put, if_neg (by decide), get_put, if_neg (by decide), get_put, if_neg (by decide), get_put, if_neg (by decide), get_put, if_neg (by decide), get_put, if_neg (by decide), get_put, if_neg (by decide), get_put, if_neg (by decide), get_put, if_pos rfl, if_pos (by (try simp only [size_put]); omega)]; exact h41
      · rw [get_put, if_neg (by decide), get_put, if_neg (by decide), get_put, if_neg (by decide), get_put, if_neg (by decide), get_put, if_neg (by decide), get_put, if_neg (by decide), get_put, if_neg (by decide), get_put, if_pos rfl, if_pos (by (try simp only [size_put]); omega)]; exact h42
      · rw [get_put, if_neg (by decide), get_put, if_neg (by decide), get_put, if_neg (by decide), get_put, if_neg (by decide), get_put, if_neg (by decide), get_put, if_neg (by decide), get_put, if_pos rfl, if_pos (by (try simp only [size_put]); omega)]; exact h43
      · rw [get_put, if_neg (by decide), get_put, if_neg (by decide), get_put, if_neg (by decide), get_put, if_neg (by decide), get_put, if_neg (by decide), get_put, if_pos rfl, if_pos (by (try simp only [size_put]); omega)]; exact h44
      · rw [get_put, if_neg (by decide), get_put, if_neg (by decide), get_put, if_neg (by decide), get_put, if_neg (by decide), get_put, if_pos rfl, if_pos (by (try simp only [size_put]); omega)]; exact h45
      · rw [get_put, if_neg (by decide), get_put, if_neg (by decide), get_put, if_neg (by decide), get_put, if_pos rfl, if_pos (by (try simp only [size_put]); omega)]; exact h46
      · rw [get_put, if_neg (by decide), get_put, if_neg (by decide), get_put, if_pos rfl, if_pos (by (try simp only [size_put]); omega)]; exact h6
      · rw [get_put, if_neg (by decide), get_put, if_pos rfl, if_pos (by (try simp only [size_put]); omega)]; exact h7
      · rw [get_put, if_pos rfl, if_pos (by (try simp only [size_put]); omega)]; exact h8
    · have := ho i hi
      simp only [filled, List.mem_cons, List.not_mem_nil, or_false, not_or] at hi
      obtain ⟨n1, n2, n3, n4, n5, n6, n7, n8, n9⟩ := hi
      rw [get_put, if_neg (Ne.symm n9), get_put, if_neg (Ne.symm n8), get_put, if_neg (Ne.symm n7), get_put, if_neg (Ne.symm n6), get_put, if_neg (Ne.symm n5), get_put, if_neg (Ne.symm n4), get_put, if_neg (Ne.symm n3), get_put, if_neg (Ne.symm n2), get_put, if_neg (Ne.symm n1)]
      exact this
  have : ∀ x y : Act, x.tmps = y.tmps → y.defers = x.defers → x = y := by
    rintro ⟨t, d⟩ ⟨t', d'⟩ h1 h2
    simp only at h1 h2
    rw [h1, h2]
  exact this _ _ e2 e
theorem region11_c {Q : Exit → Act → World → Prop} {a0 : Act} {w : World} (p4 : Nat) (L KV SV EV : List Value) (h0 : a0.tmps.size = 108) (h4 : a0.tmps[4]? = some (.pointer (some ⟨p4, 0, none⟩))) (hA : Arr w p4 31 L) (hL : L.length = 16)
    (hk2 : KV.length = 2) (hs6 : SV.length = 6) (he2 : EV.length = 2) (hk1 : KV.toArray.all (·.oneCell') = true) (hs1 : SV.toArray.all (·.oneCell') = true) (he1 : EV.toArray.all (·.oneCell') = true)
    (HK : ∀ W, Calls Tryz.prog 14 #[.agg L.toArray] W fun x w' => x = .returned (.agg KV.toArray) ∧ Keep W w')
    (HS : ∀ W, Calls Tryz.prog 15 #[.agg L.toArray] W fun x w' => x = .returned (.agg SV.toArray) ∧ Keep W w')
    (HE : ∀ W, Calls Tryz.prog 23 #[.agg L.toArray] W fun x w' => x = .returned (.agg EV.toArray) ∧ Keep W w')
    (hend : ∀ p6 p7 p8 w', Keep w w' → Arr w' p6 43 KV → Arr w' p7 46 SV → Arr w' p8 53 EV →
      Q .normal (fr11 a0 (.agg L.toArray) (.agg KV.toArray) (.agg SV.toArray) (.agg EV.toArray) (.pointer (some ⟨p6, 0, none⟩)) (.pointer (some ⟨p7, 0, none⟩)) (.pointer (some ⟨p8, 0, none⟩))) w') :
    (Code.region 11 ops11 true).wp Tryz.prog Q a0 w := by
  refine wp_region_inv (by rfl) (I11 a0 w L KV SV EV) ?_ ?_ ?_
  · intro listed a w1 hls hI i hi
    obtain ⟨hi12, hif, hdep⟩ := (rd11 listed hI.ls).2 i hi
    have hA1 := hA.keep hI.kp
    have e4 : a.eval (.tmp 4) = .pointer (some ⟨p4, 0, none⟩) := eval_of (by rw [hI.ot 4 (by decide)]; exact h4)
    have hne : listed[i]? ≠ some true := by rw [hif]; simp
    obtain rfl | rfl | rfl | rfl | rfl | rfl | rfl | rfl | rfl | rfl | rfl | rfl : i = 0 ∨ i = 1 ∨ i = 2 ∨ i = 3 ∨ i = 4 ∨ i = 5 ∨ i = 6 ∨ i = 7 ∨ i = 8 ∨ i = 9 ∨ i = 10 ∨ i = 11 := by omega
    · obtain ⟨o, ho, hg, hop, hd⟩ : ∃ o, ops11[0]? = some o ∧ o.guard = none ∧ o.op = .load 31 (.tmp 4) ∧ o.dst = some 41 := ⟨_, rfl, rfl, rfl, rfl⟩
      refine wpOp_of o ho hg (wp_load_mid 31 (.tmp 4) hop p4 0 e4 L _ (Arr.range hA1) Tryz.underlying31 rfl (by rw [hL]; exact siz31) ?_)
      rw [hd]
      exact hI.val (x := (0, 41, .agg L.toArray)) (by simp [vals]) (Keep.refl _)
    · have e := eval_of (hI.vl (0, 41, .agg L.toArray) (by simp [vals]) (hdep 0 (by simp [dep])))
      obtain ⟨o, ho, hg, hop, hd⟩ : ∃ o, ops11[1]? = some o ∧ o.guard = none ∧ o.op = .call ⟨.value (.func 14), #[.tmp 41], #[31]⟩ ∧ o.dst = some 42 := ⟨_, rfl, rfl, rfl, rfl⟩
      refine wpOp_of o ho hg (wp_call1 14 (.tmp 41) _ hop _ Tryz.func14 (by kernel_rfl) (by kernel_rfl) _ e ((HK _).mono ?_))
      rintro x w2 ⟨rfl, hk⟩
      refine ⟨_, rfl, ?_⟩
      rw [hd]
      exact hI.val (x := (1, 42, .agg KV.toArray)) (by simp [vals]) hk
    · obtain ⟨o, ho, hg, hop, hd⟩ : ∃ o, ops11[2]? = some o ∧ o.guard = none ∧ o.op = .load 31 (.tmp 4) ∧ o.dst = some 43 := ⟨_, rfl, rfl, rfl, rfl⟩
      refine wpOp_of o ho hg (wp_load_mid 31 (.tmp 4) hop p4 0 e4 L _ (Arr.range hA1) Tryz.underlying31 rfl (by rw [hL]; exact siz31) ?_)
      rw [hd]
      exact hI.val (x := (2, 43, .agg L.toArray)) (by simp [vals]) (Keep.refl _)
    · have e := eval_of (hI.vl (2, 43, .agg L.toArray) (by simp [vals]) (hdep 2 (by simp [dep])))
      obtain ⟨o, ho, hg, hop, hd⟩ : ∃ o, ops11[3]? = some o ∧ o.guard = none ∧ o.op = .call ⟨.value (.func 15), #[.tmp 43], #[31]⟩ ∧ o.dst = some 44 := ⟨_, rfl, rfl, rfl, rfl⟩
      refine wpOp_of o ho hg (wp_call1 15 (.tmp 43) _ hop _ Tryz.func15 (by kernel_rfl) (by kernel_rfl) _ e ((HS _).mono ?_))
      rintro x w2 ⟨rfl, hk⟩
      refine ⟨_, rfl, ?_⟩
      rw [hd]
      exact hI.val (x := (3, 44, .agg SV.toArray)) (by simp [vals]) hk
    · obtain ⟨o, ho, hg, hop, hd⟩ : ∃ o, ops11[4]? = some o ∧ o.guard = none ∧ o.op = .load 31 (.tmp 4) ∧ o.dst = some 45 := ⟨_, rfl, rfl, rfl, rfl⟩
      refine wpOp_of o ho hg (wp_load_mid 31 (.tmp 4) hop p4 0 e4 L _ (Arr.range hA1) Tryz.underlying31 rfl (by rw [hL]; exact siz31) ?_)
      rw [hd]
      exact hI.val (x := (4, 45, .agg L.toArray)) (by simp [vals]) (Keep.refl _)
    · have e := eval_of (hI.vl (4, 45, .agg L.toArray) (by simp [vals]) (hdep 4 (by simp [dep])))
      obtain ⟨o, ho, hg, hop, hd⟩ : ∃ o, ops11[5]? = some o ∧ o.guard = none ∧ o.op = .call ⟨.value (.func 23), #[.tmp 45], #[31]⟩ ∧ o.dst = some 46 := ⟨_, rfl, rfl, rfl, rfl⟩
      refine wpOp_of o ho hg (wp_call1 23 (.tmp 45) _ hop _ Tryz.func23 (by kernel_rfl) (by kernel_rfl) _ e ((HE _).mono ?_))
      rintro x w2 ⟨rfl, hk⟩
      refine ⟨_, rfl, ?_⟩
      rw [hd]
      exact hI.val (x := (5, 46, .agg EV.toArray)) (by simp [vals]) hk
    · obtain ⟨o, ho, hg, hop, hd⟩ : ∃ o, ops11[6]? = some o ∧ o.guard = none ∧ o.op = .alloc 43 ∧ o.dst = some 6 := ⟨_, rfl, rfl, rfl, rfl⟩
      refine wpOp_of o ho hg (wp_alloc43 hop fun c hc => ?_)
      rw [hd]
      exact hI.var (x := (6, 9, 6, 43, KV)) (by simp [vars]) hne c (by rw [hc]; exact hk2.symm)
    · obtain ⟨o, ho, hg, hop, hd⟩ : ∃ o, ops11[7]? = some o ∧ o.guard = none ∧ o.op = .alloc 46 ∧ o.dst = some 7 := ⟨_, rfl, rfl, rfl, rfl⟩
      refine wpOp_of o ho hg (wp_alloc46 hop fun c hc => ?_)
      rw [hd]
      exact hI.var (x := (7, 10, 7, 46, SV)) (by simp [vars]) hne c (by rw [hc]; exact hs6.symm)
    · obtain ⟨o, ho, hg, hop, hd⟩ : ∃ o, ops11[8]? = some o ∧ o.guard = none ∧ o.op = .alloc 53 ∧ o.dst = some 8 := ⟨_, rfl, rfl, rfl, rfl⟩
      refine wpOp_of o ho hg (wp_alloc53 hop fun c hc => ?_)
      rw [hd]
      exact hI.var (x := (8, 11, 8, 53, EV)) (by simp [vars]) hne c (by rw [hc]; exact he2.symm)
    · have hal := hdep 6 (by simp [dep])
      have e := eval_of (hI.vl (1, 42, .agg KV.toArray) (by simp [vals]) (hdep 1 (by simp [dep])))
      obtain ⟨p, cs, h1, h2, h3, h5, -⟩ := hI.vr (6, 9, 6, 43, KV) (by simp [vars]) hal
      obtain ⟨o, ho, hg, hop, hd⟩ : ∃ o, ops11[9]? = some o ∧ o.guard = none ∧ o.op = .store 43 (.tmp 6) (.tmp 42) ∧ o.dst = none := ⟨_, rfl, rfl, rfl, rfl⟩
      refine wpOp_of o ho hg (wp_store_row 43 (.tmp 6) (.tmp 42) hop p KV.toArray (eval_of h1) e 43 cs.toArray h3 (by rw [List.size_toArray, hk2]; exact siz43) (by simpa using h5) hk1 ?_)
      rw [hd]
      exact hI.store (x := (6, 9, 6, 43, KV)) (by simp [vars]) hal h1 h2 h3
    · have hal := hdep 7 (by simp [dep])
      have e := eval_of (hI.vl (3, 44, .agg SV.toArray) (by simp [vals]) (hdep 3 (by simp [dep])))
      obtain ⟨p, cs, h1, h2, h3, h5, -⟩ := hI.vr (7, 10, 7, 46, SV) (by simp [vars]) hal
      obtain ⟨o, ho, hg, hop, hd⟩ : ∃ o, ops11[10]? = some o ∧ o.guard = none ∧ o.op = .store 46 (.tmp 7) (.tmp 44) ∧ o.dst = none := ⟨_, rfl, rfl, rfl, rfl⟩
      refine wpOp_of o ho hg (wp_store_row 46 (.tmp 7) (.tmp 44) hop p SV.toArray (eval_of h1) e 46 cs.toArray h3 (by rw [List.size_toArray, hs6]; exact siz46) (by simpa using h5) hs1 ?_)
      rw [hd]
      exact hI.store (x := (7, 10, 7, 46, SV)) (by simp [vars]) hal h1 h2 h3
    · have hal := hdep 8 (by simp [dep])
      have e := eval_of (hI.vl (5, 46, .agg EV.toArray) (by simp [vals]) (hdep 5 (by simp [dep])))
      obtain ⟨p, cs, h1, h2, h3, h5, -⟩ := hI.vr (8, 11, 8, 53, EV) (by simp [vars]) hal
      obtain ⟨o, ho, hg, hop, hd⟩ : ∃ o, ops11[11]? = some o ∧ o.guard = none ∧ o.op = .store 53 (.tmp 8) (.tmp 46) ∧ o.dst = none := ⟨_, rfl, rfl, rfl, rfl⟩
      refine wpOp_of o ho hg (wp_store_row 53 (.tmp 8) (.tmp 46) hop p EV.toArray (eval_of h1) e 53 cs.toArray h3 (by rw [List.size_toArray, he2]; exact siz53) (by simpa using h5) he1 ?_)
      rw [hd]
      exact hI.store (x := (8, 11, 8, 53, EV)) (by simp [vars]) hal h1 h2 h3
  · intro listed a w1 hI hr
    have hall := (rd11 listed hI.ls).1 hr
    obtain ⟨p6, c6, g6, -, A6, -, E6⟩ := hI.vr (6, 9, 6, 43, KV) (by simp [vars]) (hall 6 (by omega))
    obtain ⟨p7, c7, g7, -, A7, -, E7⟩ := hI.vr (7, 10, 7, 46, SV) (by simp [vars]) (hall 7 (by omega))
    obtain ⟨p8, c8, g8, -, A8, -, E8⟩ := hI.vr (8, 11, 8, 53, EV) (by simp [vars]) (hall 8 (by omega))
    have E6' := E6 (hall 9 (by omega))
    have E7' := E7 (hall 10 (by omega))
    have E8' := E8 (hall 11 (by omega))
    simp only at A6 A7 A8 E6' E7' E8' g6 g7 g8
    subst E6' E7' E8'
    rw [fr11_eq h0 hI.sz hI.df hI.ot (hI.vl (0, 41, .agg L.toArray) (by simp [vals]) (hall 0 (by omega))) (hI.vl (1, 42, _) (by simp [vals]; rfl) (hall 1 (by omega))) (hI.vl (2, 43, .agg L.toArray) (by simp [vals]) (hall 2 (by omega))) (hI.vl (3, 44, _) (by simp [vals]; rfl) (hall 3 (by omega))) (hI.vl (4, 45, .agg L.toArray) (by simp [vals]) (hall 4 (by omega))) (hI.vl (5, 46, _) (by simp [vals]; rfl) (hall 5 (by omega))) g6 g7 g8]
    exact hend p6 p7 p8 w1 hI.kp A6 A7 A8
  · refine ⟨by simp [ops11], rfl, h0, fun n _ => rfl, (Keep.refl w).drew, ?_, ?_, ?_⟩
    · intro x hx hl
      simp [Array.getElem?_replicate] at hl
    · intro x hx hl
      simp [Array.getElem?_replicate] at hl
    · intro x hx hl
      simp [Array.getElem?_replicate] at hl
end Go.Proofs.Qxb6500771aGreat
