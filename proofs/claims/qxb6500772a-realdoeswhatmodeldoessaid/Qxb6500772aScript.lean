/- The script of a law: a slice of structs; what its reading gives. Made by mkscript.py. -/
import Derived.Test.Qxb6500772aRows
import Derived.Test.Qxb6500772aOpen
namespace Go.Proofs.Qxb6500772a
open Go.RowKit Go.Qm
set_option linter.unusedVariables false
set_option linter.unusedSimpArgs false

theorem cel81 : Try.prog.cellsOf 81 = 5 := by kernel_rfl
theorem cel79 : Try.prog.cellsOf 79 = 1 := by kernel_rfl
theorem cel3 : Try.prog.cellsOf 3 = 1 := by kernel_rfl
theorem cel5 : Try.prog.cellsOf 5 = 1 := by kernel_rfl
theorem byt5 : Try.prog.bytesOf 5 = 1 := by kernel_rfl

/-- One step of a script. -/
structure OpR where
  kind : Int
  fa : Int
  fb : Int
  fc : Int
  fd : Int

/-- The step lies at block b from cell q on. -/
structure OpAt (w : World) (b q : Nat) (s : OpR) : Prop where
  c0 : w.cell? ⟨b, q, none⟩ = some (.int .i64 s.kind)
  c1 : w.cell? ⟨b, q + 1, none⟩ = some (.int .i64 s.fa)
  c2 : w.cell? ⟨b, q + 2, none⟩ = some (.int .i64 s.fb)
  c3 : w.cell? ⟨b, q + 3, none⟩ = some (.int .i64 s.fc)
  c4 : w.cell? ⟨b, q + 4, none⟩ = some (.int .i64 s.fd)
  r0 : -9223372036854775808 ≤ s.kind ∧ s.kind ≤ 9223372036854775807
  r1 : -9223372036854775808 ≤ s.fa ∧ s.fa ≤ 9223372036854775807
  r2 : -9223372036854775808 ≤ s.fb ∧ s.fb ≤ 9223372036854775807
  r3 : -9223372036854775808 ≤ s.fc ∧ s.fc ≤ 9223372036854775807
  r4 : -9223372036854775808 ≤ s.fd ∧ s.fd ≤ 9223372036854775807

theorem OpAt.keep {w w' : World} {b q : Nat} {s : OpR} (h : OpAt w b q s) (k : Keep w w') : OpAt w' b q s :=
  ⟨k.cell h.c0, k.cell h.c1, k.cell h.c2, k.cell h.c3, k.cell h.c4, h.r0, h.r1, h.r2, h.r3, h.r4⟩

def Script (w : World) (v : Value) (ss : List OpR) : Prop :=
  ∃ a c, v = .slice a ss.length c ∧ ss.length ≤ c ∧ c ≤ maxLen ∧ ∀ k (hk : k < ss.length), ∃ b o, a = some ⟨b, o, none⟩ ∧ OpAt w b (o + k * 5) ss[k]

theorem Script.keep {w w' : World} {v : Value} {ss : List OpR} (h : Script w v ss) (k : Keep w w') : Script w' v ss := by
  obtain ⟨a, c, hv, h1, h2, h3⟩ := h
  exact ⟨a, c, hv, h1, h2, fun i hi => let ⟨b, o, ha, ho⟩ := h3 i hi; ⟨b, o, ha, ho.keep k⟩⟩

theorem script_of_trod {H : Type} {enc : TypeId × Value → H} {w : World} {base : Nat} {spare : Nat → Bool} {held : Bool} {v : Value} {d : DataW H} {ps : List MemPlace} (h : DataW.Trod enc Try.prog w base spare held 22 v d ps) (hL : Light Try.prog 22 d) (hv : v.cells = #[v]) :
    ∃ ss, Script w v ss := by
  obtain ⟨fuel, h⟩ := h
  rw [hv] at h
  obtain ⟨a, n, c, rfl, hnc, hcm, _, hall⟩ := rows_of_trod Try.underlying22 (by rw [cel81]; omega) hL h
  have hone : ∀ k, k < n → ∃ s : OpR, ∃ b o, a = some ⟨b, o, none⟩ ∧ OpAt w b (o + k * 5) s := fun k hk => by
    obtain ⟨b, o, cs, f', y, ha, hl, hcell, htr, hLy⟩ := hall k hk
    rw [cel81] at hl hcell
    match cs, hl with
    | [c0, c1, c2, c3, c4], _ =>
      obtain ⟨m0, y0, t0, g0⟩ := field1_of_trod Try.underlying81 hLy htr 0 rfl cel79 (o := 0) rfl (by simp)
      obtain ⟨m1, y1, t1, g1⟩ := field1_of_trod Try.underlying81 hLy htr 1 rfl cel3 (o := 1) rfl (by simp)
      obtain ⟨m2, y2, t2, g2⟩ := field1_of_trod Try.underlying81 hLy htr 2 rfl cel3 (o := 2) rfl (by simp)
      obtain ⟨m3, y3, t3, g3⟩ := field1_of_trod Try.underlying81 hLy htr 3 rfl cel3 (o := 3) rfl (by simp)
      obtain ⟨m4, y4, t4, g4⟩ := field1_of_trod Try.underlying81 hLy htr 4 rfl cel3 (o := 4) rfl (by simp)
      obtain ⟨n0, e0, w0⟩ := int_of_trod Try.underlying79 t0
      obtain ⟨n1, e1, w1⟩ := int_of_trod Try.underlying3 t1
      obtain ⟨n2, e2, w2⟩ := int_of_trod Try.underlying3 t2
      obtain ⟨n3, e3, w3⟩ := int_of_trod Try.underlying3 t3
      obtain ⟨n4, e4, w4⟩ := int_of_trod Try.underlying3 t4
      simp only [List.getElem_cons_zero, List.getElem_cons_succ] at e0 e1 e2 e3 e4
      subst e0
      subst e1
      subst e2
      subst e3
      subst e4
      exact ⟨⟨n0, n1, n2, n3, n4⟩, b, o, ha, ⟨hcell 0 (by omega), hcell 1 (by omega), hcell 2 (by omega), hcell 3 (by omega), hcell 4 (by omega), bounds_i64 w0, bounds_i64 w1, bounds_i64 w2, bounds_i64 w3, bounds_i64 w4⟩⟩
  have : Inhabited OpR := ⟨⟨0, 0, 0, 0, 0⟩⟩
  obtain ⟨f, hf⟩ := Deep.choose_lt hone
  refine ⟨(List.range n).map f, a, c, by simp, by simpa using hnc, hcm, fun k hk => ?_⟩
  have hk' : k < n := by simpa using hk
  simpa using hf k hk'
end Go.Proofs.Qxb6500772a
