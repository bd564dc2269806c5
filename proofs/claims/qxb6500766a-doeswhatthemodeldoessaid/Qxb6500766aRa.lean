/- Slices of structs that lie in a block of their own; the raw directories: List. -/
import Derived.Test.Qxb6500766aSm
import Derived.Test.Qxb6500766aMx
import Derived.Deep.LoopGhost
namespace Go.Qm
open Go Go.RowKit
/-- The slice v owns its block; its elements are l, each of sz cells. -/
def OwnS {α : Type} (f : α → List Value) (sz : Nat) (e : TypeId) (B : Nat) (w : World) (v : Value) (l : List α) : Prop := w.ownsRow B e sz v l.length (l.flatMap f)
section
variable {α : Type} {f : α → List Value} {sz : Nat} {e : TypeId} {B : Nat} {w w' : World} {v : Value} {l : List α}
theorem OwnS.nil (f : α → List Value) (sz : Nat) (e : TypeId) (B : Nat) (w : World) : OwnS f sz e B w (.slice none 0 0) ([] : List α) := World.ownsRow_nil _ _ _ _
theorem OwnS.form (h : OwnS f sz e B w v l) : (v = .slice none 0 0 ∧ l = []) ∨ ∃ g cap cur, v = .slice (some ⟨g, 0, none⟩) l.length cap ∧ B ≤ g ∧ Arr w g e cur ∧ l.length ≤ cap ∧ cap ≤ maxLen ∧ cur.length = cap * sz ∧ cur.take (l.length * sz) = l.flatMap f := by
  rcases h.2 with ⟨hv, h0⟩ | ⟨g, cap, cur, hv, hB, hg, hnc, hm, hs, ht⟩
  · exact Or.inl ⟨hv, List.eq_nil_of_length_eq_zero h0⟩
  · exact Or.inr ⟨g, cap, cur.toList, hv, hB, by simpa [Arr] using hg, hnc, hm, by simpa using hs, ht⟩
theorem OwnS.keep (h : OwnS f sz e B w v l) (k : Keep w w') : OwnS f sz e B w' v l := by
  refine ⟨h.1, ?_⟩
  rcases h.2 with hn | ⟨g, cap, cur, hv, hb, hg, rest⟩
  · exact Or.inl hn
  · exact Or.inr ⟨g, cap, cur, hv, hb, k.heap hg, rest⟩
theorem OwnS.mono {B' : Nat} (h : OwnS f sz e B w v l) (hB : B' ≤ B) : OwnS f sz e B' w v l := by
  refine ⟨h.1, ?_⟩
  rcases h.2 with hn | ⟨g, cap, cur, hv, hb, rest⟩
  · exact Or.inl hn
  · exact Or.inr ⟨g, cap, cur, hv, Nat.le_trans hB hb, rest⟩
theorem OwnS.lt (h : OwnS f sz e B w v l) : ∀ k, v.ownBlock = some k → B ≤ k ∧ k < w.heap.size := World.ownsRow.lt h
theorem OwnS.alloc (h : OwnS f sz e B w v l) (o : Obj) : OwnS f sz e B (w.alloc o) v l := h.keep ((Keep.refl w).alloc o)
theorem flat_take_get {cur : List Value} {n : Nat} (hf : ∀ x, (f x).length = sz) (ht : cur.take n = l.flatMap f) (i j : Nat) (hi : i < l.length) (hj : j < sz) : cur[i * sz + j]? = (f l[i])[j]? := by
  have h1 := flat_get f sz hf l i j hi hj
  rw [← ht, List.getElem?_take] at h1
  split at h1
  · exact h1
  · have h2 : (f l[i])[j]? = some ((f l[i])[j]'(by rw [hf]; exact hj)) := List.getElem?_eq_getElem _
    rw [h2] at h1
    cases h1
end
/-- append of one struct. -/
theorem wpList_appS {P : Program} {w : World} {ops : Array Oper} {rest : List Oper} {o : Oper} {a : Act} {Q : Exit → Act → World → Prop} (hgd : o.guard = none) (s x : Operand) (t : TypeId)
    (ho : o.op = .call { callee := .builtin .append, args := #[s, x], argTypes := #[t, t] }) {α : Type} (f : α → List Value) {e : TypeId} {z : Value} {sz bytes : Nat} (ht : P.underlying t = some (.slice e))
    (hi : (P.info? e).map (fun i => (i.zero, i.size, i.bytes)) = some (some z, sz, bytes)) (hz : z.cells.size = sz) (hsz : 0 < sz) (hf : ∀ y, (f y).length = sz) (B : Nat) {v : Value} {l : List α} (hs : a.eval s = v) (hown : OwnS f sz e B w v l)
    (g : Nat) (y : α) (hx : a.eval x = .slice (some ⟨g, 0, none⟩) 1 1) (hg : Arr w g e (f y)) (h1 : ∀ u ∈ f y, u.oneCell' = true) (hm : l.length + 1 ≤ maxLen) (hb : (l.length + 1) * bytes ≤ 140737488355328) (hB : B ≤ w.heap.size)
    (h : ∀ v' w', OwnS f sz e B w' v' (l ++ [y]) → w.grownBy w' v.ownBlock → (v'.ownBlock = v.ownBlock ∨ v'.ownBlock = some w.heap.size) → wpList P ops Q rest (a.put o.dst v') w') : wpList P ops Q (o :: rest) a w := by
  obtain ⟨i, hi', hz', hs', hby⟩ := info_parts hi
  refine wpList_append_own_at (P := P) w hgd s x t ho B e i z sz bytes ht hi' hz' hs' hby hz hsz v l.length (l.flatMap f) hs hown ⟨g, 0, none⟩ 1 1 (f y) hx (by rw [hf]; omega) ?_ h1 hm hb hB ?_
  · intro j u hu
    have e : (⟨g, 0, none⟩ : Addr).add j = ⟨g, j, none⟩ := by unfold Addr.add; split <;> simp_all
    rw [e, Arr.cell hg, hu]
  · intro v' w' a1 a2 a3 a4
    refine h v' w' ?_ a2 a4
    unfold OwnS
    rw [List.length_append, List.flatMap_append]
    simpa using a1
end Go.Qm
namespace Go.Proofs.Qxb6500766a
open Go.RowKit Go.Qm
set_option linter.unusedVariables false
set_option linter.unusedSimpArgs false
attribute [local go_sem ↓] Go.wp_at_zero Go.wp_at_succ
def rawC (r : List UInt8 × Int) : List Value := [str r.1, .int .i64 r.2]
theorem rawC_length (r : List UInt8 × Int) : (rawC r).length = 2 := rfl
theorem rawC_one (r : List UInt8 × Int) : ∀ u ∈ rawC r, u.oneCell' = true := by intro u hu; simp [rawC] at hu; rcases hu with rfl | rfl <;> rfl
theorem inf62 : (Try.prog.info? 62).map (fun i => (i.zero, i.size, i.bytes)) = some (some (.agg (rawC ([], 0)).toArray), 2, 24) := by kernel_rfl
abbrev RawO (B : Nat) (w : World) (v : Value) (rs : List (List UInt8 × Int)) : Prop := OwnS rawC 2 62 B w v rs
set_option maxRecDepth 2000 in
set_option maxHeartbeats 2000000 in
theorem list_c (B gs d l : Nat) (v : Value) (rs : List (List UInt8 × Int)) (w : World) (hc : w.cell? ⟨gs, d * 8 + l, none⟩ = some v) (hr : RawO B w v rs) (hd : d < 24) (hl : l < 8) (hlen : rs.length ≤ 1000) :
    Calls Try.prog 33 #[.pointer (some ⟨gs, 0, none⟩), .int .i64 d, .int .i64 l] w fun e w' => ∃ v', e = .returned v' ∧ RawO w.heap.size w' v' rs ∧ Keep w w' := by
  have IR := inRange_c d l w
  rw [show (dirB d && layB l) = true by simp [dirB, layB]; omega] at IR
  have i1 : (d : Int) < 24 := by omega
  have i2 : (l : Int) < 8 := by omega
  rcases hr.form with ⟨rfl, rfl⟩ | ⟨g, cap, cur, rfl, hBg, hA, hnc, hcm, hcs, htk⟩
  · go_enter Try.func33, Try.ntmps33
    go_wp2_with fail
    refine IR.mono ?_
    rintro e w1 ⟨rfl, rfl⟩
    go_wp2_with fail
    go_loopg [7, 8] 0 (fun gk ov iv wr => iv = .int .i64 0 ∧ ov = .slice none 0 0 ∧ wr = w1)
    case atStart => exact ⟨rfl, rfl, rfl⟩
    case round =>
      obtain ⟨rfl, rfl, rfl⟩ := hrel
      go_wp2_with fail
      go_ret
      exact ⟨_, rfl, OwnS.nil _ _ _ _ _, Keep.refl _⟩
  · unfold maxLen at hcm
    have HT := Hid.mk htk
    have HCS := Hid.mk hcs
    clear htk hcs
    go_enter Try.func33, Try.ntmps33
    go_wp2_with fail
    refine IR.mono ?_
    rintro e w1 ⟨rfl, rfl⟩
    go_wp2_with fail
    go_loopg [7, 8] rs.length (fun gk ov iv wr => ∃ k : Nat, k + gk = rs.length ∧ iv = .int .i64 k ∧ RawO w1.heap.size wr ov (rs.take k) ∧ Keep w1 wr)
    case atStart => exact ⟨0, by omega, rfl, OwnS.nil _ _ _ _ _, Keep.refl _⟩
    case round => as_aux_lemma =>
      obtain ⟨k, hk, rfl, oo, kw⟩ := hrel
      have HK := Hid.mk hk
      clear hk
      by_cases hlt : k < rs.length
      · have j1 : (k : Int) < rs.length := by omega
        have hc' := kw.cell hc
        have x00 := flat_take_get rawC_length HT.out k 0 hlt (by omega)
        rw [Nat.add_zero] at x00
        have x0 := ((hA.keep kw).cell (k * 2)).trans x00
        clear x00
        have x1 := ((hA.keep kw).cell (k * 2 + 1)).trans (flat_take_get rawC_length HT.out k 1 hlt (by omega))
        have HTS : Hid (rs.take (k + 1) = rs.take k ++ [rs[k]]) := Hid.mk (List.take_succ_eq_append_getElem hlt)
        generalize rs[k] = R at *
        obtain ⟨rn, rk⟩ := R
        simp only [rawC, List.getElem?_cons_zero, List.getElem?_cons_succ] at x0 x1
        have HLL : Hid ((rs.take k).length = k) := Hid.mk (by rw [List.length_take]; omega)
        have hw := kw.size
        go_wp2_with (at_builtin; refine wpList_appS (by rfl) _ _ _ (by rfl) rawC Try.underlying59 inf62 rfl (by omega) rawC_length w1.heap.size (by rfl) (oo.alloc _) _ (rn, rk) (by rfl) (Arr.new wr 62 (rawC (rn, rk))) (rawC_one _) (by rw [HLL.out]; simp only [maxLen]; omega) (by rw [HLL.out]; omega) (by simp; omega) ?_; intro v' w' hown' hgr hob)
        go_roundg (gk - 1)
        case measure => have := HK.out; omega
        case rel => exact ⟨k + 1, by have := HK.out; omega, by go_num, by rw [HTS.out]; exact hown', (kw.alloc _).grown hgr (fun q hq => (oo.lt q hq).1)⟩
      · have j1 : ¬ (k : Int) < rs.length := by omega
        have hc' := kw.cell hc
        rw [List.take_of_length_le (by omega)] at oo
        go_wp2_with fail
        go_ret
        exact ⟨_, rfl, oo, kw⟩
end Go.Proofs.Qxb6500766a
