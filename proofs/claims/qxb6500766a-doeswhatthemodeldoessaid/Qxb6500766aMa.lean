/- foldindexm: the model's rows in the memory. -/
import Derived.Test.Qxb6500766aNw
import Derived.Deep.AppendSrc
import Derived.Deep.Upon
import Derived.Deep.RegionHeld3
namespace Go.Qm
open Go Go.RowKit
theorem step_of_run {P : Program} {w : World} {ops : Array Oper} {o : Oper} {a : Act} {K : Act → World → Prop} {Q : Exit → Act → World → Prop} {E : Prop} (hgd : o.guard = none) (s x : Operand) (t : TypeId)
    (ho : o.op = .call { callee := .builtin .append, args := #[s, x], argTypes := #[t, t] }) (v xv v' : Value) (w' : World) (hs : a.eval s = v) (hx : a.eval x = xv) (hr : (Builtin.append_ #[t, t] o.type #[v, xv]).run P w = .ok v' w') (h : K (a.put o.dst v') w') :
    if Region.wanted o (yielded ops a.tmps) = true then Oper.wp P o a w K Q else E := by
  have hw : Region.wanted o (yielded ops a.tmps) = true := by simp [Region.wanted, hgd]
  rw [if_pos hw]
  unfold Oper.wp execOp
  simp only [ho, resolve, invoke, builtin, Sem.run_bind, Sem.run_pure, Result.andThen_ok, List.map_toArray, List.map_cons, List.map_nil, hs, hx, hr]
  exact h
end Go.Qm
namespace Go.Proofs.Qxb6500766a
open Go Go.RowKit Go.Qm
set_option linter.unusedVariables false
structure Row where
  dir : Int
  layer : Int
  raw : List UInt8
  kind : Int
def mrC (r : Row) : List Value := [.int .i64 r.dir, .int .i64 r.layer, str r.raw, .int .i64 r.kind]
theorem mrC_length (r : Row) : (mrC r).length = 4 := rfl
theorem mrC_one (r : Row) : ∀ u ∈ mrC r, u.oneCell' = true := by intro u hu; simp [mrC] at hu; rcases hu with rfl | rfl | rfl | rfl <;> rfl
def row0 : Row := ⟨0, 0, [], 0⟩
theorem inf112 : (Try.prog.info? 112).map (fun i => (i.zero, i.size, i.bytes)) = some (some (.agg (mrC row0).toArray), 4, 40) := by kernel_rfl
abbrev RowO (B : Nat) (w : World) (v : Value) (rs : List Row) : Prop := OwnS mrC 4 112 B w v rs
/-- The rows' slice: it owns its block, or it is full. -/
def RowW (B : Nat) (w : World) (v : Value) (rs : List Row) : Prop :=
  RowO B w v rs ∨ ∃ g cur, v = .slice (some ⟨g, 0, none⟩) rs.length rs.length ∧ B ≤ g ∧ Arr w g 112 cur ∧ rs.length ≤ maxLen ∧ cur.take (rs.length * 4) = rs.flatMap mrC
theorem RowW.form {B : Nat} {w : World} {v : Value} {rs : List Row} (h : RowW B w v rs) : (v = .slice none 0 0 ∧ rs = []) ∨ ∃ g cap cur, v = .slice (some ⟨g, 0, none⟩) rs.length cap ∧ B ≤ g ∧ Arr w g 112 cur ∧ rs.length ≤ cap ∧ cap ≤ maxLen ∧ cur.take (rs.length * 4) = rs.flatMap mrC := by
  rcases h with h | ⟨g, cur, e, hB, hA, hm, ht⟩
  · rcases h.form with a | ⟨g, cap, cur, e, hB, hA, h1, h2, _, h3⟩
    · exact Or.inl a
    · exact Or.inr ⟨g, cap, cur, e, hB, hA, h1, h2, h3⟩
  · exact Or.inr ⟨g, _, cur, e, hB, hA, Nat.le_refl _, hm, ht⟩
theorem RowW.read {B : Nat} {w : World} {v : Value} {rs : List Row} (h : RowW B w v rs) : ∃ a cap, v = .slice a rs.length cap ∧ rs.length ≤ cap ∧ cap ≤ 2 ^ 63 - 1 ∧ ∀ k (hk : k < rs.length), ∃ g, a = some ⟨g, 0, none⟩ ∧ g < w.heap.size ∧ ∀ W : World, W.heap[g]? = w.heap[g]? → W.cell? ⟨g, k * 4, none⟩ = some (.int .i64 rs[k].dir) ∧ W.cell? ⟨g, k * 4 + 1, none⟩ = some (.int .i64 rs[k].layer) ∧ W.cell? ⟨g, k * 4 + 2, none⟩ = some (str rs[k].raw) ∧ W.cell? ⟨g, k * 4 + 3, none⟩ = some (.int .i64 rs[k].kind) := by
  rcases h.form with ⟨rfl, rfl⟩ | ⟨g, cap, cur, rfl, hBg, hA, hnc, hcm, htk⟩
  · exact ⟨none, 0, rfl, Nat.le_refl _, by omega, fun k hk => by simp at hk⟩
  · refine ⟨_, cap, rfl, hnc, by unfold maxLen at hcm; exact hcm, fun k hk => ⟨g, rfl, hA.lt, fun W hW => ?_⟩⟩
    have hA' : Arr W g 112 cur := hW.trans hA
    have x0 := flat_take_get mrC_length htk k 0 hk (by omega)
    rw [Nat.add_zero] at x0
    exact ⟨(hA'.cell _).trans x0, (hA'.cell _).trans (flat_take_get mrC_length htk k 1 hk (by omega)), (hA'.cell _).trans (flat_take_get mrC_length htk k 2 hk (by omega)), (hA'.cell _).trans (flat_take_get mrC_length htk k 3 hk (by omega))⟩
theorem RowW.fr {B : Nat} {w w' : World} {v : Value} {rs : List Row} {P : Nat → Prop} (h : RowW B w v rs) (k : Fr P w w') (hp : ∀ q, v.ownBlock = some q → ¬ P q) : RowW B w' v rs := by
  rcases h with h | ⟨g, cur, e, hB, hA, hm, ht⟩
  · exact Or.inl (h.fr k hp)
  · exact Or.inr ⟨g, cur, e, hB, k.arr (hp g (by rw [e]; rfl)) hA, hm, ht⟩
theorem RowW.keep {B : Nat} {w w' : World} {v : Value} {rs : List Row} (h : RowW B w v rs) (k : Keep w w') : RowW B w' v rs := h.fr (P := fun _ => False) (Fr.keep k) (fun _ _ a => a)
theorem RowW.lt {B : Nat} {w : World} {v : Value} {rs : List Row} (h : RowW B w v rs) {q : Nat} (hq : v.ownBlock = some q) : (B ≤ q ∧ q < w.heap.size) ∧ ∃ cur, Arr w q 112 cur := by
  rcases h.form with ⟨rfl, _⟩ | ⟨g, cap, cur, rfl, hB, hA, _⟩
  · cases hq
  · have : g = q := by simpa [Value.ownBlock] using hq
    subst this
    exact ⟨⟨hB, hA.lt⟩, cur, hA⟩
/-- A new row is laid: n rows out of one place and m out of another. -/
theorem rows_new {w : World} {B : Nat} {rs : List Row} {i : TypeInfo} {z : Value} (hz4 : z.cells.size = 4) (hb : B ≤ w.heap.size) (n old : Nat) (hn : rs.length = n) (hm : n ≤ maxLen) :
    RowO B (w.drew.alloc (.cells ((rs.flatMap mrC).toArray ++ Builtin.zeroCells z.cells (grownCap w n old 112 - n)) 112)) (.slice (some ⟨w.heap.size, 0, none⟩) n (grownCap w n old 112)) rs := by
  subst hn
  have hge := grownCap_ge w rs.length old 112
  have hcm : grownCap w rs.length old 112 ≤ maxLen := grownCap_le_maxLen w rs.length old 112 hm
  have hl := flat_length mrC 4 mrC_length rs
  refine ⟨hl, .inr ⟨w.heap.size, _, _, rfl, hb, heap_alloc_new w.drew _, hge, hcm, ?_, ?_⟩⟩
  · simp only [Array.size_append, List.size_toArray, size_zeroCells, hz4, hl]
    rw [← Nat.add_mul]
    congr 1
    omega
  · simp only [Array.toList_append]
    rw [← hl]
    exact List.take_left
theorem app_row {w : World} {B : Nat} {v : Value} {rs : List Row} (h : RowW B w v rs) (g : Nat) (r : Row) (hg : Arr w g 112 (mrC r)) (hB : B ≤ w.heap.size) (hl : rs.length ≤ 100000) (ty : TypeId) :
    ∃ v' w', (Builtin.append_ #[76, 76] ty #[v, .slice (some ⟨g, 0, none⟩) 1 1]).run Try.prog w = .ok v' w' ∧ RowW B w' v' (rs ++ [r]) ∧ w.grownBy w' v.ownBlock ∧ (v'.ownBlock = v.ownBlock ∨ v'.ownBlock = some w.heap.size) := by
  obtain ⟨i, hi', hz', hs', hby⟩ := info_parts inf112
  have hnews : ∀ j u, (mrC r)[j]? = some u → w.cell? ((⟨g, 0, none⟩ : Addr).add j) = some u := fun j u hu => by
    have e : (⟨g, 0, none⟩ : Addr).add j = ⟨g, j, none⟩ := by unfold Addr.add; split <;> simp_all
    rw [e, Arr.cell hg, hu]
  rcases h with h | ⟨g2, cur, rfl, hB2, hA2, hm2, ht2⟩
  · obtain ⟨v', w', h1, h2, h3, _, h4⟩ := run_append_own_at (P := Try.prog) w B 76 ty 112 i _ 4 40 Try.underlying76 hi' hz' hs' hby rfl (by omega) v rs.length (rs.flatMap mrC) h ⟨g, 0, none⟩ 1 1 (mrC r) rfl hnews (mrC_one r) (by simp only [maxLen]; omega) (by omega) hB
    refine ⟨v', w', h1, Or.inl ?_, h3, h4⟩
    unfold RowO OwnS
    rw [List.length_append, List.flatMap_append]
    simpa using h2
  · have hol : (rs.flatMap mrC).length = rs.length * 4 := flat_length mrC 4 mrC_length rs
    have hold : (Builtin.firstCells i.size rs.length (.slice (some ⟨g2, 0, none⟩) rs.length rs.length)).run Try.prog w.drew = .ok (rs.flatMap mrC).toArray w.drew := by
      rw [hs']
      refine run_firstCells_some w.drew 4 rs.length ⟨g2, 0, none⟩ rs.length rs.length (rs.flatMap mrC) hol (fun j u hu => ?_)
      have e : (⟨g2, 0, none⟩ : Addr).add j = ⟨g2, j, none⟩ := by unfold Addr.add; split <;> simp_all
      rw [e]
      show w.cell? ⟨g2, j, none⟩ = some u
      rw [Arr.cell hA2]
      rw [← ht2, List.getElem?_take] at hu
      split at hu
      · exact hu
      · cases hu
    have hsrc : Src Try.prog i.size 76 (.slice (some ⟨g, 0, none⟩) 1 1) 1 (mrC r) w := Src.ofSlice w Try.underlying76 ⟨g, 0, none⟩ 1 1 (mrC r) (by rw [hs']; rfl) hnews (mrC_one r)
    have hrun := run_append_grow_src (P := Try.prog) w 76 76 ty 112 i _ Try.underlying76 hi' hz' (some ⟨g2, 0, none⟩) rs.length rs.length (rs.flatMap mrC) hold _ 1 (mrC r) hsrc (by omega) (by omega) (growslice_fits (by omega) (by rw [hby]; omega))
    have e1 : rs.flatMap mrC ++ mrC r = (rs ++ [r]).flatMap mrC := by simp
    rw [e1] at hrun
    refine ⟨_, _, hrun, Or.inl (rows_new (i := i) rfl hB (rs.length + 1) rs.length (by simp) (by simp only [maxLen]; omega)), ⟨rfl, rfl, rfl, by simp, fun k hk _ => heap_alloc_old w.drew _ hk⟩, Or.inr rfl⟩
/-- The rows but one. -/
theorem cut_row {w : World} {B : Nat} {rs : List Row} {g cap : Nat} {cur : List Value} (hA : Arr w g 112 cur) (hBg : B ≤ g) (ht : cur.take (rs.length * 4) = rs.flatMap mrC) (hB : B ≤ w.heap.size) (hl : rs.length ≤ 100000) {i : Nat} (hi : i + 1 < rs.length) (c : Nat) (ty : TypeId) :
    ∃ v' w', (Builtin.append_ #[76, 76] ty #[.slice (some ⟨g, 0, none⟩) i i, .slice (some ⟨g, (i + 1) * 4, none⟩) (rs.length - (i + 1)) c]).run Try.prog w = .ok v' w' ∧ RowW B w' v' (rs.eraseIdx i) ∧ Keep w w' ∧ v'.ownBlock = some w.heap.size := by
  obtain ⟨inf, hi', hz', hs', hby⟩ := info_parts inf112
  have hget : ∀ k (hk : k < rs.length) j, j < 4 → w.cell? ⟨g, k * 4 + j, none⟩ = (mrC rs[k])[j]? := fun k hk j hj => (Arr.cell hA _).trans (flat_take_get mrC_length ht k j hk hj)
  have hol : ((rs.take i).flatMap mrC).length = i * 4 := by rw [flat_length mrC 4 mrC_length, List.length_take, Nat.min_eq_left (by omega)]
  have hnl : ((rs.drop (i + 1)).flatMap mrC).length = (rs.length - (i + 1)) * 4 := by rw [flat_length mrC 4 mrC_length, List.length_drop]
  have hall : ∀ (j : Nat) (u : Value), (rs.flatMap mrC)[j]? = some u → w.cell? ⟨g, j, none⟩ = some u := fun j u hu => by
    rw [Arr.cell hA]
    rw [← ht, List.getElem?_take] at hu
    split at hu
    · exact hu
    · cases hu
  have hsplit : rs.flatMap mrC = (rs.take (i + 1)).flatMap mrC ++ (rs.drop (i + 1)).flatMap mrC := by rw [← List.flatMap_append, List.take_append_drop]
  have hsplit0 : rs.flatMap mrC = (rs.take i).flatMap mrC ++ (rs.drop i).flatMap mrC := by rw [← List.flatMap_append, List.take_append_drop]
  have hold : (Builtin.firstCells inf.size i (.slice (some ⟨g, 0, none⟩) i i)).run Try.prog w.drew = .ok ((rs.take i).flatMap mrC).toArray w.drew := by
    rw [hs']
    refine run_firstCells_some w.drew 4 i ⟨g, 0, none⟩ i i _ hol (fun j u hu => ?_)
    have e : (⟨g, 0, none⟩ : Addr).add j = ⟨g, j, none⟩ := by unfold Addr.add; split <;> simp_all
    rw [e]
    refine hall j u ?_
    rw [hsplit0, List.getElem?_append_left (List.getElem?_eq_some_iff.1 hu).1]
    exact hu
  have h1 : ∀ u ∈ (rs.drop (i + 1)).flatMap mrC, u.oneCell' = true := fun u hu => by
    obtain ⟨r, _, hr⟩ := List.mem_flatMap.1 hu
    exact mrC_one r u hr
  have hsrc : Src Try.prog inf.size 76 (.slice (some ⟨g, (i + 1) * 4, none⟩) (rs.length - (i + 1)) c) (rs.length - (i + 1)) ((rs.drop (i + 1)).flatMap mrC) w := Src.ofSlice w Try.underlying76 ⟨g, (i + 1) * 4, none⟩ _ c _ (by rw [hs']; exact hnl) (fun j u hu => by
    have e : (⟨g, (i + 1) * 4, none⟩ : Addr).add j = ⟨g, (i + 1) * 4 + j, none⟩ := by unfold Addr.add; split <;> simp_all
    rw [e]
    refine hall _ u ?_
    have hl1 : ((rs.take (i + 1)).flatMap mrC).length = (i + 1) * 4 := by rw [flat_length mrC 4 mrC_length, List.length_take, Nat.min_eq_left (by omega)]
    rw [hsplit, List.getElem?_append_right (by omega), hl1, Nat.add_sub_cancel_left]
    exact hu) h1
  have hrun := run_append_grow_src (P := Try.prog) w 76 76 ty 112 inf _ Try.underlying76 hi' hz' (some ⟨g, 0, none⟩) i i _ hold _ _ _ hsrc (by omega) (by omega) (growslice_fits (by omega) (by rw [hby]; omega))
  have e1 : (rs.take i).flatMap mrC ++ (rs.drop (i + 1)).flatMap mrC = (rs.eraseIdx i).flatMap mrC := by rw [List.eraseIdx_eq_take_drop_succ, List.flatMap_append]
  rw [e1] at hrun
  have hlen : (rs.eraseIdx i).length = i + (rs.length - (i + 1)) := by rw [List.length_eraseIdx, if_pos (by omega)]; omega
  exact ⟨_, _, hrun, Or.inl (rows_new (i := inf) rfl hB _ i hlen (by simp only [maxLen]; omega)), (Keep.refl w).drew.alloc _, rfl⟩
end Go.Proofs.Qxb6500766a
