/- The script of a law: a slice of steps; what its reading gives. -/
import Derived.Test.Qxb6500767aRows
import Derived.Test.Qxb6500767aOpen
import Derived.Test.Qxb6500767aFq
namespace Go.Proofs.Qxb6500767a
open Go.RowKit Go.Qm
set_option linter.unusedVariables false
set_option linter.unusedSimpArgs false
theorem cel37 : Try.prog.cellsOf 37 = 10 := by kernel_rfl
theorem cel3 : Try.prog.cellsOf 3 = 1 := by kernel_rfl
theorem cel9 : Try.prog.cellsOf 9 = 1 := by kernel_rfl
/-- The step lies at block b from cell q on. -/
structure OpAt (w : World) (b q : Nat) (s : OpV) : Prop where
  c0 : w.cell? ⟨b, q, none⟩ = some (.int .i64 s.kind)
  c1 : w.cell? ⟨b, q + 1, none⟩ = some (.int .i64 s.h)
  c2 : w.cell? ⟨b, q + 2, none⟩ = some (.int .i64 s.flags)
  c3 : w.cell? ⟨b, q + 3, none⟩ = some (.int .i64 s.mode)
  c4 : w.cell? ⟨b, q + 4, none⟩ = some (.int .i64 s.n)
  c5 : w.cell? ⟨b, q + 5, none⟩ = some (.int .i64 s.off)
  c6 : w.cell? ⟨b, q + 6, none⟩ = some (.int .i64 s.wh)
  c7 : w.cell? ⟨b, q + 7, none⟩ = some (str s.path)
  c8 : w.cell? ⟨b, q + 8, none⟩ = some (str s.path2)
  c9 : w.cell? ⟨b, q + 9, none⟩ = some (str s.data)
  l7 : s.path.length ≤ reachBytes
  l8 : s.path2.length ≤ reachBytes
  l9 : s.data.length ≤ reachBytes
theorem OpAt.keep {w w' : World} {b q : Nat} {s : OpV} (h : OpAt w b q s) (k : Keep w w') : OpAt w' b q s :=
  ⟨k.cell h.c0, k.cell h.c1, k.cell h.c2, k.cell h.c3, k.cell h.c4, k.cell h.c5, k.cell h.c6, k.cell h.c7, k.cell h.c8, k.cell h.c9, h.l7, h.l8, h.l9⟩
def Script (w : World) (v : Value) (ss : List OpV) : Prop :=
  ∃ a c, v = .slice a ss.length c ∧ ss.length ≤ c ∧ c ≤ maxLen ∧ ∀ k (hk : k < ss.length), ∃ b o, a = some ⟨b, o, none⟩ ∧ OpAt w b (o + k * 10) ss[k]
theorem Script.keep {w w' : World} {v : Value} {ss : List OpV} (h : Script w v ss) (k : Keep w w') : Script w' v ss := by
  obtain ⟨a, c, hv, h1, h2, h3⟩ := h
  exact ⟨a, c, hv, h1, h2, fun i hi => let ⟨b, o, ha, ho⟩ := h3 i hi; ⟨b, o, ha, ho.keep k⟩⟩
theorem str_of_trod {H : Type} {enc : TypeId × Value → H} {P : Program} {w : World} {base : Nat} {spare : Nat → Bool} {held : Bool} {fuel : Nat} {t : TypeId} {x : DataW H × List MemPlace} {v : Value} (ht : P.underlying t = some .string) (hL : Light P t x.1) (h : DataW.trod enc P w base spare held fuel t [v] = some x) : ∃ l, v = str l ∧ l.length ≤ reachBytes := by
  obtain ⟨s, hv, hx, _⟩ := DataW.trod_string ht h
  simp only [List.cons.injEq, and_true] at hv
  refine ⟨s.data.toList, by rw [hv], ?_⟩
  have := hL s.data.toList.length
  rw [hx] at this
  exact this (by simp [DataW.weights])
theorem script_of_trod {H : Type} {enc : TypeId × Value → H} {w : World} {base : Nat} {spare : Nat → Bool} {held : Bool} {v : Value} {d : DataW H} {ps : List MemPlace} (h : DataW.Trod enc Try.prog w base spare held 22 v d ps) (hL : Light Try.prog 22 d) (hv : v.cells = #[v]) :
    ∃ ss, Script w v ss := by
  obtain ⟨fuel, h⟩ := h
  rw [hv] at h
  obtain ⟨a, n, c, rfl, hnc, hcm, _, hall⟩ := rows_of_trod Try.underlying22 (by rw [cel37]; omega) hL h
  have hone : ∀ k, k < n → ∃ s : OpV, ∃ b o, a = some ⟨b, o, none⟩ ∧ OpAt w b (o + k * 10) s := fun k hk => by
    obtain ⟨b, o, cs, f', y, ha, hl, hcell, htr, hLy⟩ := hall k hk
    rw [cel37] at hl hcell
    match cs, hl with
    | [c0, c1, c2, c3, c4, c5, c6, c7, c8, c9], _ =>
      obtain ⟨m0, y0, t0, g0⟩ := field1_of_trod Try.underlying37 hLy htr 0 rfl cel3 (o := 0) rfl (by simp)
      obtain ⟨m1, y1, t1, g1⟩ := field1_of_trod Try.underlying37 hLy htr 1 rfl cel3 (o := 1) rfl (by simp)
      obtain ⟨m2, y2, t2, g2⟩ := field1_of_trod Try.underlying37 hLy htr 2 rfl cel3 (o := 2) rfl (by simp)
      obtain ⟨m3, y3, t3, g3⟩ := field1_of_trod Try.underlying37 hLy htr 3 rfl cel3 (o := 3) rfl (by simp)
      obtain ⟨m4, y4, t4, g4⟩ := field1_of_trod Try.underlying37 hLy htr 4 rfl cel3 (o := 4) rfl (by simp)
      obtain ⟨m5, y5, t5, g5⟩ := field1_of_trod Try.underlying37 hLy htr 5 rfl cel3 (o := 5) rfl (by simp)
      obtain ⟨m6, y6, t6, g6⟩ := field1_of_trod Try.underlying37 hLy htr 6 rfl cel3 (o := 6) rfl (by simp)
      obtain ⟨m7, y7, t7, g7⟩ := field1_of_trod Try.underlying37 hLy htr 7 rfl cel9 (o := 7) rfl (by simp)
      obtain ⟨m8, y8, t8, g8⟩ := field1_of_trod Try.underlying37 hLy htr 8 rfl cel9 (o := 8) rfl (by simp)
      obtain ⟨m9, y9, t9, g9⟩ := field1_of_trod Try.underlying37 hLy htr 9 rfl cel9 (o := 9) rfl (by simp)
      obtain ⟨n0, e0, w0⟩ := int_of_trod Try.underlying3 t0
      obtain ⟨n1, e1, w1⟩ := int_of_trod Try.underlying3 t1
      obtain ⟨n2, e2, w2⟩ := int_of_trod Try.underlying3 t2
      obtain ⟨n3, e3, w3⟩ := int_of_trod Try.underlying3 t3
      obtain ⟨n4, e4, w4⟩ := int_of_trod Try.underlying3 t4
      obtain ⟨n5, e5, w5⟩ := int_of_trod Try.underlying3 t5
      obtain ⟨n6, e6, w6⟩ := int_of_trod Try.underlying3 t6
      obtain ⟨n7, e7, w7⟩ := str_of_trod Try.underlying9 g7 t7
      obtain ⟨n8, e8, w8⟩ := str_of_trod Try.underlying9 g8 t8
      obtain ⟨n9, e9, w9⟩ := str_of_trod Try.underlying9 g9 t9
      simp only [List.getElem_cons_zero, List.getElem_cons_succ] at e0 e1 e2 e3 e4 e5 e6 e7 e8 e9
      subst e0
      subst e1
      subst e2
      subst e3
      subst e4
      subst e5
      subst e6
      subst e7
      subst e8
      subst e9
      exact ⟨⟨n0, n1, n2, n3, n4, n5, n6, n7, n8, n9⟩, b, o, ha, ⟨hcell 0 (by omega), hcell 1 (by omega), hcell 2 (by omega), hcell 3 (by omega), hcell 4 (by omega), hcell 5 (by omega), hcell 6 (by omega), hcell 7 (by omega), hcell 8 (by omega), hcell 9 (by omega), w7, w8, w9⟩⟩
  have : Inhabited OpV := ⟨⟨0, 0, 0, 0, 0, 0, 0, [], [], []⟩⟩
  obtain ⟨f, hf⟩ := Deep.choose_lt hone
  refine ⟨(List.range n).map f, a, c, by simp, by simpa using hnc, hcm, fun k hk => ?_⟩
  have hk' : k < n := by simpa using hk
  simpa using hf k hk'
end Go.Proofs.Qxb6500767a
