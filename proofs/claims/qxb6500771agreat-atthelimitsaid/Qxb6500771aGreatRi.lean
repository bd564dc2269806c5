/- The order of a region by a computation; the frame behind it; a slice of words built. -/
import Derived.Test.Qxb6500771aGreatRh
namespace Go.Qm
open Go Go.RowKit
def okBack (ops : Array Oper) : Bool := (List.range ops.size).all fun i => match ops[i]? with | some o => o.after.toList.all (fun e => !(Region.binds .any e) || decide (e.on < i)) | none => true
def okDep (ops : Array Oper) (dep : Nat → List Nat) : Bool := (List.range ops.size).all fun i => match ops[i]? with | some o => (dep i).all (fun j => o.after.toList.any (fun e => e.on == j && Region.binds .any e)) | none => true
theorem hr_of {ops : Array Oper} {dep : Nat → List Nat} {N : Nat} (hsz : ops.size = N) (h1 : okBack ops = true) (h2 : okDep ops dep = true) :
    ∀ listed : Array Bool, listed.size = N → (Region.ready .any ops listed = [] → ∀ i < N, listed[i]? = some true) ∧ ∀ i ∈ Region.ready .any ops listed, i < N ∧ ∀ j ∈ dep i, listed[j]? = some true := by
  intro listed hls
  constructor
  · intro h0
    unfold Region.ready at h0
    rw [List.filter_eq_nil_iff] at h0
    intro i
    induction i using Nat.strongRecOn with
    | _ i ih =>
      intro hi
      have hio : i < ops.size := by omega
      have hil : i < listed.size := by omega
      have hx := h0 i (by simpa using hio)
      have hb := List.all_eq_true.1 h1 i (by simpa using hio)
      rw [Array.getElem?_eq_getElem hio] at hx hb
      simp only [Option.map_some, Option.getD_some] at hx hb
      rw [Array.getElem?_eq_getElem hil]
      cases hl : listed[i] with
      | true => rfl
      | false =>
        exfalso
        apply hx
        have hg : listed.getD i true = false := by simp [Array.getD, hil, hl]
        rw [hg]
        simp only [Bool.not_false, Bool.true_and]
        rw [Array.all_eq_true']
        intro e he
        have hbe := List.all_eq_true.1 hb e (by simpa using he)
        cases hbd : Region.binds .any e with
        | false => simp
        | true =>
          rw [hbd] at hbe
          simp only [Bool.not_true, Bool.false_or, decide_eq_true_eq] at hbe
          have hle := ih e.on hbe (by omega)
          have hel : e.on < listed.size := by omega
          rw [Array.getElem?_eq_getElem hel] at hle
          simp only [Bool.not_true, Bool.false_or]
          simp only [Option.some.injEq] at hle
          simp [Array.getD, hel, hle]
  · intro i hi
    unfold Region.ready at hi
    rw [List.mem_filter] at hi
    obtain ⟨hi1, hi2⟩ := hi
    have hio : i < ops.size := by simpa using hi1
    refine ⟨by omega, ?_⟩
    intro j hj
    have hd := List.all_eq_true.1 h2 i (by simpa using hio)
    rw [Array.getElem?_eq_getElem hio] at hi2 hd
    simp only [Option.map_some, Option.getD_some, Bool.and_eq_true] at hi2 hd
    have hdj := List.all_eq_true.1 hd j hj
    obtain ⟨e, he, hej⟩ := List.any_eq_true.1 hdj
    simp only [Bool.and_eq_true, beq_iff_eq] at hej
    have hall := (Array.all_eq_true'.1 hi2.2) e (by simpa using he)
    rw [hej.2] at hall
    simp only [Bool.not_true, Bool.false_or] at hall
    rw [← hej.1]
    by_cases hel : e.on < listed.size
    · rw [Array.getElem?_eq_getElem hel]
      simp [Array.getD, hel] at hall
      rw [hall]
    · simp [Array.getD, hel] at hall
/-- The frame, written out but for the slots that the region wrote. -/
theorem frame_ext {a a0 : Act} {s0 N d : Nat} {v : Value} (hdf : a.defers = a0.defers) (hsz : a.tmps.size = a0.tmps.size) (hs : s0 + N < a0.tmps.size) (hd : d < s0)
    (ho : ∀ n, ¬ (s0 ≤ n ∧ n ≤ s0 + N) → n ≠ d → a.tmps[n]? = a0.tmps[n]?) (hv : a.tmps[d]? = some v) :
    ∃ m : List Value, m.length = N + 1 ∧ a = ⟨((a0.tmps.toList.set d v).take s0 ++ m ++ (a0.tmps.toList.set d v).drop (s0 + N + 1)).toArray, a0.defers⟩ := by
  refine ⟨(a.tmps.toList.drop s0).take (N + 1), ?_, ?_⟩
  · rw [List.length_take, List.length_drop, Array.length_toList]; omega
  · have e : a.tmps.toList = (a0.tmps.toList.set d v).take s0 ++ (a.tmps.toList.drop s0).take (N + 1) ++ (a0.tmps.toList.set d v).drop (s0 + N + 1) := by
      apply List.ext_getElem?
      intro n
      have hl0 : (a0.tmps.toList.set d v).length = a0.tmps.size := by simp
      have hlt : ((a0.tmps.toList.set d v).take s0).length = s0 := by rw [List.length_take, hl0]; omega
      have hlm : ((a.tmps.toList.drop s0).take (N + 1)).length = N + 1 := by rw [List.length_take, List.length_drop, Array.length_toList]; omega
      by_cases h1 : n < s0
      · rw [List.append_assoc, List.getElem?_append_left (by omega), List.getElem?_take, if_pos h1]
        by_cases h2 : n = d
        · subst h2
          rw [List.getElem?_set_self (by simp; omega)]
          simpa using hv
        · rw [List.getElem?_set_ne (by omega)]
          simpa using ho n (by omega) h2
      · by_cases h2 : n < s0 + N + 1
        · rw [List.append_assoc, List.getElem?_append_right (by omega), List.getElem?_append_left (by omega), hlt, List.getElem?_take, if_pos (by omega), List.getElem?_drop, show s0 + (n - s0) = n by omega]
        · rw [List.getElem?_append_right (by rw [List.length_append]; omega), List.length_append, hlt, hlm, List.getElem?_drop, show s0 + N + 1 + (n - (s0 + (N + 1))) = n by omega, List.getElem?_set_ne (by omega)]
          simpa using ho n (by omega) (by omega)
    obtain ⟨tm, df⟩ := a
    simp only at e hdf
    rw [hdf, ← e]
end Go.Qm
namespace Go.Proofs.Qxb6500771aGreat
open Go Go.RowKit Go.Qm
set_option linter.unusedVariables false
set_option linter.unusedSimpArgs false
theorem wp_bs18 {o : Oper} {a : Act} {w : World} {K : Act → World → Prop} {Q : Exit → Act → World → Prop} (t0 t1 t2 t3 t4 t5 t6 t7 t8 t9 t10 t11 t12 t13 t14 t15 t16 t17 : Nat) (v0 v1 v2 v3 v4 v5 v6 v7 v8 v9 v10 v11 v12 v13 v14 v15 v16 v17 : Int) (ho : o.op = .buildSlice 146 18 #[(0, .tmp t0), (1, .tmp t1), (2, .tmp t2), (3, .tmp t3), (4, .tmp t4), (5, .tmp t5), (6, .tmp t6), (7, .tmp t7), (8, .tmp t8), (9, .tmp t9), (10, .tmp t10), (11, .tmp t11), (12, .tmp t12), (13, .tmp t13), (14, .tmp t14), (15, .tmp t15), (16, .tmp t16), (17, .tmp t17)]) (h0 : a.tmps[t0]? = some (.int .u64 v0)) (h1 : a.tmps[t1]? = some (.int .u64 v1)) (h2 : a.tmps[t2]? = some (.int .u64 v2)) (h3 : a.tmps[t3]? = some (.int .u64 v3)) (h4 : a.tmps[t4]? = some (.int .u64 v4)) (h5 : a.tmps[t5]? = some (.int .u64 v5)) (h6 : a.tmps[t6]? = some (.int .u64 v6)) (h7 : a.tmps[t7]? = some (.int .u64 v7)) (h8 : a.tmps[t8]? = some (.int .u64 v8)) (h9 : a.tmps[t9]? = some (.int .u64 v9)) (h10 : a.tmps[t10]? = some (.int .u64 v10)) (h11 : a.tmps[t11]? = some (.int .u64 v11)) (h12 : a.tmps[t12]? = some (.int .u64 v12)) (h13 : a.tmps[t13]? = some (.int .u64 v13)) (h14 : a.tmps[t14]? = some (.int .u64 v14)) (h15 : a.tmps[t15]? = some (.int .u64 v15)) (h16 : a.tmps[t16]? = some (.int .u64 v16)) (h17 : a.tmps[t17]? = some (.int .u64 v17)) (B : Nat) (hB : B ≤ w.heap.size)
    (h : ∀ v w', Own B 29 w' v [.int .u64 v0, .int .u64 v1, .int .u64 v2, .int .u64 v3, .int .u64 v4, .int .u64 v5, .int .u64 v6, .int .u64 v7, .int .u64 v8, .int .u64 v9, .int .u64 v10, .int .u64 v11, .int .u64 v12, .int .u64 v13, .int .u64 v14, .int .u64 v15, .int .u64 v16, .int .u64 v17] → Keep w w' → K (a.put o.dst v) w') : o.wp Tryz.prog a w K Q := by
  have O := Own.lit (B := B) (e := 29) (w := w) [.int .u64 v0, .int .u64 v1, .int .u64 v2, .int .u64 v3, .int .u64 v4, .int .u64 v5, .int .u64 v6, .int .u64 v7, .int .u64 v8, .int .u64 v9, .int .u64 v10, .int .u64 v11, .int .u64 v12, .int .u64 v13, .int .u64 v14, .int .u64 v15, .int .u64 v16, .int .u64 v17] hB (by simp [maxLen])
  have KK := (Keep.refl w).alloc (.cells ([.int .u64 v0, .int .u64 v1, .int .u64 v2, .int .u64 v3, .int .u64 v4, .int .u64 v5, .int .u64 v6, .int .u64 v7, .int .u64 v8, .int .u64 v9, .int .u64 v10, .int .u64 v11, .int .u64 v12, .int .u64 v13, .int .u64 v14, .int .u64 v15, .int .u64 v16, .int .u64 v17] : List Value).toArray 29)
  unfold Oper.wp execOp
  simp only [ho]
  simp [go_sem, h0, h1, h2, h3, h4, h5, h6, h7, h8, h9, h10, h11, h12, h13, h14, h15, h16, h17]
  exact h _ _ O KK
theorem wp_bs4 {o : Oper} {a : Act} {w : World} {K : Act → World → Prop} {Q : Exit → Act → World → Prop} (t0 t1 t2 t3 : Nat) (v0 v1 v2 v3 : Int) (ho : o.op = .buildSlice 146 4 #[(0, .tmp t0), (1, .tmp t1), (2, .tmp t2), (3, .tmp t3)]) (h0 : a.tmps[t0]? = some (.int .u64 v0)) (h1 : a.tmps[t1]? = some (.int .u64 v1)) (h2 : a.tmps[t2]? = some (.int .u64 v2)) (h3 : a.tmps[t3]? = some (.int .u64 v3)) (B : Nat) (hB : B ≤ w.heap.size)
    (h : ∀ v w', Own B 29 w' v [.int .u64 v0, .int .u64 v1, .int .u64 v2, .int .u64 v3] → Keep w w' → K (a.put o.dst v) w') : o.wp Tryz.prog a w K Q := by
  have O := Own.lit (B := B) (e := 29) (w := w) [.int .u64 v0, .int .u64 v1, .int .u64 v2, .int .u64 v3] hB (by simp [maxLen])
  have KK := (Keep.refl w).alloc (.cells ([.int .u64 v0, .int .u64 v1, .int .u64 v2, .int .u64 v3] : List Value).toArray 29)
  unfold Oper.wp execOp
  simp only [ho]
  simp [go_sem, h0, h1, h2, h3]
  exact h _ _ O KK
theorem wp_bs24 {o : Oper} {a : Act} {w : World} {K : Act → World → Prop} {Q : Exit → Act → World → Prop} (t0 t1 t2 t3 t4 t5 t6 t7 t8 t9 t10 t11 t12 t13 t14 t15 t16 t17 t18 t19 t20 t21 t22 t23 : Nat) (v0 v1 v2 v3 v4 v5 v6 v7 v8 v9 v10 v11 v12 v13 v14 v15 v16 v17 v18 v19 v20 v21 v22 v23 : Int) (ho : o.op = .buildSlice 146 24 #[(0, .tmp t0), (1, .tmp t1), (2, .tmp t2), (3, .tmp t3), (4, .tmp t4), (5, .tmp t5), (6, .tmp t6), (7, .tmp t7), (8, .tmp t8), (9, .tmp t9), (10, .tmp t10), (11, .tmp t11), (12, .tmp t12), (13, .tmp t13), (14, .tmp t14), (15, .tmp t15), (16, .tmp t16), (17, .tmp t17), (18, .tmp t18), (19, .tmp t19), (20, .tmp t20), (21, .tmp t21), (22, .tmp t22), (23, .tmp t23)]) (h0 : a.tmps[t0]? = some (.int .u64 v0)) (h1 : a.tmps[t1]? = some (.int .u64 v1)) (h2 : a.tmps[t2]? = some (.int .u64 v2)) (h3 : a.tmps[t3]? = some (.int .u64 v3)) (h4 : a.tmps[t4]? = some (.int .u64 v4)) (h5 : a.tmps[t5]? = some (.int .u64 v5)) (h6 : a.tmps[t6]? = some (.int .u64 v6)) (h7 : a.tmps[t7]? = some (.int .u64 v7)) (h8 : a.tmps[t8]? = some (.int .u64 v8)) (h9 : a.tmps[t9]? = some (.int .u64 v9)) (h10 : a.tmps[t10]? = some (.int .u64 v10)) (h11 : a.tmps[t11]? = some (.int .u64 v11)) (h12 : a.tmps[t12]? = some (.int .u64 v12)) (h13 : a.tmps[t13]? = some (.int .u64 v13)) (h14 : a.tmps[t14]? = some (.int .u64 v14)) (h15 : a.tmps[t15]? = some (.int .u64 v15)) (h16 : a.tmps[t16]? = some (.int .u64 v16)) (h17 : a.tmps[t17]? = some (.int .u64 v17)) (h18 : a.tmps[t18]? = some (.int .u64 v18)) (h19 : a.tmps[t19]? = some (.int .u64 v19)) (h20 : a.tmps[t20]? = some (.int .u64 v20)) (h21 : a.tmps[t21]? = some (.int .u64 v21)) (h22 : a.tmps[t22]? = some (.int .u64 v22)) (h23 : a.tmps[t23]? = some (.int .u64 v23)) (B : Nat) (hB : B ≤ w.heap.size)
    (h : ∀ v w', Own B 29 w' v [.int .u64 v0, .int .u64 v1, .int .u64 v2, .int .u64 v3, .int .u64 v4, .int .u64 v5, .int .u64 v6, .int .u64 v7, .int .u64 v8, .int .u64 v9, .int .u64 v10, .int .u64 v11, .int .u64 v12, .int .u64 v13, .int .u64 v14, .int .u64 v15, .int .u64 v16, .int .u64 v17, .int .u64 v18, .int .u64 v19, .int .u64 v20, .int .u64 v21, .int .u64 v22, .int .u64 v23] → Keep w w' → K (a.put o.dst v) w') : o.wp Tryz.prog a w K Q := by
  have O := Own.lit (B := B) (e := 29) (w := w) [.int .u64 v0, .int .u64 v1, .int .u64 v2, .int .u64 v3, .int .u64 v4, .int .u64 v5, .int .u64 v6, .int .u64 v7, .int .u64 v8, .int .u64 v9, .int .u64 v10, .int .u64 v11, .int .u64 v12, .int .u64 v13, .int .u64 v14, .int .u64 v15, .int .u64 v16, .int .u64 v17, .int .u64 v18, .int .u64 v19, .int .u64 v20, .int .u64 v21, .int .u64 v22, .int .u64 v23] hB (by simp [maxLen])
  have KK := (Keep.refl w).alloc (.cells ([.int .u64 v0, .int .u64 v1, .int .u64 v2, .int .u64 v3, .int .u64 v4, .int .u64 v5, .int .u64 v6, .int .u64 v7, .int .u64 v8, .int .u64 v9, .int .u64 v10, .int .u64 v11, .int .u64 v12, .int .u64 v13, .int .u64 v14, .int .u64 v15, .int .u64 v16, .int .u64 v17, .int .u64 v18, .int .u64 v19, .int .u64 v20, .int .u64 v21, .int .u64 v22, .int .u64 v23] : List Value).toArray 29)
  unfold Oper.wp execOp
  simp only [ho]
  simp [go_sem, h0, h1, h2, h3, h4, h5, h6, h7, h8, h9, h10, h11, h12, h13, h14, h15, h16, h17, h18, h19, h20, h21, h22, h23]
  exact h _ _ O KK
theorem wp_bs6 {o : Oper} {a : Act} {w : World} {K : Act → World → Prop} {Q : Exit → Act → World → Prop} (t0 t1 t2 t3 t4 t5 : Nat) (v0 v1 v2 v3 v4 v5 : Int) (ho : o.op = .buildSlice 146 6 #[(0, .tmp t0), (1, .tmp t1), (2, .tmp t2), (3, .tmp t3), (4, .tmp t4), (5, .tmp t5)]) (h0 : a.tmps[t0]? = some (.int .u64 v0)) (h1 : a.tmps[t1]? = some (.int .u64 v1)) (h2 : a.tmps[t2]? = some (.int .u64 v2)) (h3 : a.tmps[t3]? = some (.int .u64 v3)) (h4 : a.tmps[t4]? = some (.int .u64 v4)) (h5 : a.tmps[t5]? = some (.int .u64 v5)) (B : Nat) (hB : B ≤ w.heap.size)
    (h : ∀ v w', Own B 29 w' v [.int .u64 v0, .int .u64 v1, .int .u64 v2, .int .u64 v3, .int .u64 v4, .int .u64 v5] → Keep w w' → K (a.put o.dst v) w') : o.wp Tryz.prog a w K Q := by
  have O := Own.lit (B := B) (e := 29) (w := w) [.int .u64 v0, .int .u64 v1, .int .u64 v2, .int .u64 v3, .int .u64 v4, .int .u64 v5] hB (by simp [maxLen])
  have KK := (Keep.refl w).alloc (.cells ([.int .u64 v0, .int .u64 v1, .int .u64 v2, .int .u64 v3, .int .u64 v4, .int .u64 v5] : List Value).toArray 29)
  unfold Oper.wp execOp
  simp only [ho]
  simp [go_sem, h0, h1, h2, h3, h4, h5]
  exact h _ _ O KK
end Go.Proofs.Qxb6500771aGreat
