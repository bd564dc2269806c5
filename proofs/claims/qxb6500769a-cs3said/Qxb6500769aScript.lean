/- The script of a law: a slice of structs; what its reading gives. Made by mkscript.py. -/
import Derived.Test.Qxb6500769aRows
import Derived.Test.Qxb6500769aOpen
namespace Go.Proofs.Qxb6500769a
open Go.RowKit Go.Qm
set_option linter.unusedVariables false
set_option linter.unusedSimpArgs false

theorem cel30 : Try.prog.cellsOf 30 = 11 := by kernel_rfl
theorem cel24 : Try.prog.cellsOf 24 = 1 := by kernel_rfl
theorem cel25 : Try.prog.cellsOf 25 = 1 := by kernel_rfl
theorem cel26 : Try.prog.cellsOf 26 = 1 := by kernel_rfl
theorem cel27 : Try.prog.cellsOf 27 = 1 := by kernel_rfl
theorem cel28 : Try.prog.cellsOf 28 = 1 := by kernel_rfl
theorem cel3 : Try.prog.cellsOf 3 = 1 := by kernel_rfl
theorem cel5 : Try.prog.cellsOf 5 = 1 := by kernel_rfl
theorem byt5 : Try.prog.bytesOf 5 = 1 := by kernel_rfl

/-- One step of a script. -/
structure OpR where
  kind : Int
  hash : Int
  cipher : Int
  keyV : Value
  key : List UInt8
  ivV : Value
  iv : List UInt8
  dataV : Value
  data : List UInt8
  labelV : Value
  label : List UInt8
  contextV : Value
  context : List UInt8
  count : Int
  len : Int
  dst : Int

/-- The step lies at block b from cell q on. -/
structure OpAt (w : World) (b q : Nat) (s : OpR) : Prop where
  c0 : w.cell? ⟨b, q, none⟩ = some (.int .i64 s.kind)
  c1 : w.cell? ⟨b, q + 1, none⟩ = some (.int .i64 s.hash)
  c2 : w.cell? ⟨b, q + 2, none⟩ = some (.int .i64 s.cipher)
  c3 : w.cell? ⟨b, q + 3, none⟩ = some s.keyV
  c4 : w.cell? ⟨b, q + 4, none⟩ = some s.ivV
  c5 : w.cell? ⟨b, q + 5, none⟩ = some s.dataV
  c6 : w.cell? ⟨b, q + 6, none⟩ = some s.labelV
  c7 : w.cell? ⟨b, q + 7, none⟩ = some s.contextV
  c8 : w.cell? ⟨b, q + 8, none⟩ = some (.int .u32 s.count)
  c9 : w.cell? ⟨b, q + 9, none⟩ = some (.int .i64 s.len)
  c10 : w.cell? ⟨b, q + 10, none⟩ = some (.int .i64 s.dst)
  r0 : -9223372036854775808 ≤ s.kind ∧ s.kind ≤ 9223372036854775807
  r1 : -9223372036854775808 ≤ s.hash ∧ s.hash ≤ 9223372036854775807
  r2 : -9223372036854775808 ≤ s.cipher ∧ s.cipher ≤ 9223372036854775807
  b3 : Bs w s.keyV s.key
  l3 : s.key.length ≤ reachBytes
  b4 : Bs w s.ivV s.iv
  l4 : s.iv.length ≤ reachBytes
  b5 : Bs w s.dataV s.data
  l5 : s.data.length ≤ reachBytes
  b6 : Bs w s.labelV s.label
  l6 : s.label.length ≤ reachBytes
  b7 : Bs w s.contextV s.context
  l7 : s.context.length ≤ reachBytes
  r8 : 0 ≤ s.count ∧ s.count ≤ 4294967295
  r9 : -9223372036854775808 ≤ s.len ∧ s.len ≤ 9223372036854775807
  r10 : -9223372036854775808 ≤ s.dst ∧ s.dst ≤ 9223372036854775807

theorem OpAt.keep {w w' : World} {b q : Nat} {s : OpR} (h : OpAt w b q s) (k : Keep w w') : OpAt w' b q s :=
  ⟨k.cell h.c0, k.cell h.c1, k.cell h.c2, k.cell h.c3, k.cell h.c4, k.cell h.c5, k.cell h.c6, k.cell h.c7, k.cell h.c8, k.cell h.c9, k.cell h.c10, h.r0, h.r1, h.r2, h.b3.keep k, h.l3, h.b4.keep k, h.l4, h.b5.keep k, h.l5, h.b6.keep k, h.l6, h.b7.keep k, h.l7, h.r8, h.r9, h.r10⟩

def Script (w : World) (v : Value) (ss : List OpR) : Prop :=
  ∃ a c, v = .slice a ss.length c ∧ ss.length ≤ c ∧ c ≤ maxLen ∧ ∀ k (hk : k < ss.length), ∃ b o, a = some ⟨b, o, none⟩ ∧ OpAt w b (o + k * 11) ss[k]

theorem Script.keep {w w' : World} {v : Value} {ss : List OpR} (h : Script w v ss) (k : Keep w w') : Script w' v ss := by
  obtain ⟨a, c, hv, h1, h2, h3⟩ := h
  exact ⟨a, c, hv, h1, h2, fun i hi => let ⟨b, o, ha, ho⟩ := h3 i hi; ⟨b, o, ha, ho.keep k⟩⟩

theorem script_of_trod {H : Type} {enc : TypeId × Value → H} {w : World} {base : Nat} {spare : Nat → Bool} {held : Bool} {v : Value} {d : DataW H} {ps : List MemPlace} (h : DataW.Trod enc Try.prog w base spare held 22 v d ps) (hL : Light Try.prog 22 d) (hv : v.cells = #[v]) :
    ∃ ss, Script w v ss := by
  obtain ⟨fuel, h⟩ := h
  rw [hv] at h
  obtain ⟨a, n, c, rfl, hnc, hcm, _, hall⟩ := rows_of_trod Try.underlying22 (by rw [cel30]; omega) hL h
  have hone : ∀ k, k < n → ∃ s : OpR, ∃ b o, a = some ⟨b, o, none⟩ ∧ OpAt w b (o + k * 11) s := fun k hk => by
    obtain ⟨b, o, cs, f', y, ha, hl, hcell, htr, hLy⟩ := hall k hk
    rw [cel30] at hl hcell
    match cs, hl with
    | [c0, c1, c2, c3, c4, c5, c6, c7, c8, c9, c10], _ =>
      obtain ⟨m0, y0, t0, g0⟩ := field1_of_trod Try.underlying30 hLy htr 0 rfl cel24 (o := 0) rfl (by simp)
      obtain ⟨m1, y1, t1, g1⟩ := field1_of_trod Try.underlying30 hLy htr 1 rfl cel25 (o := 1) rfl (by simp)
      obtain ⟨m2, y2, t2, g2⟩ := field1_of_trod Try.underlying30 hLy htr 2 rfl cel26 (o := 2) rfl (by simp)
      obtain ⟨m3, y3, t3, g3⟩ := field1_of_trod Try.underlying30 hLy htr 3 rfl cel27 (o := 3) rfl (by simp)
      obtain ⟨m4, y4, t4, g4⟩ := field1_of_trod Try.underlying30 hLy htr 4 rfl cel27 (o := 4) rfl (by simp)
      obtain ⟨m5, y5, t5, g5⟩ := field1_of_trod Try.underlying30 hLy htr 5 rfl cel27 (o := 5) rfl (by simp)
      obtain ⟨m6, y6, t6, g6⟩ := field1_of_trod Try.underlying30 hLy htr 6 rfl cel27 (o := 6) rfl (by simp)
      obtain ⟨m7, y7, t7, g7⟩ := field1_of_trod Try.underlying30 hLy htr 7 rfl cel27 (o := 7) rfl (by simp)
      obtain ⟨m8, y8, t8, g8⟩ := field1_of_trod Try.underlying30 hLy htr 8 rfl cel28 (o := 8) rfl (by simp)
      obtain ⟨m9, y9, t9, g9⟩ := field1_of_trod Try.underlying30 hLy htr 9 rfl cel3 (o := 9) rfl (by simp)
      obtain ⟨m10, y10, t10, g10⟩ := field1_of_trod Try.underlying30 hLy htr 10 rfl cel3 (o := 10) rfl (by simp)
      obtain ⟨n0, e0, w0⟩ := int_of_trod Try.underlying24 t0
      obtain ⟨n1, e1, w1⟩ := int_of_trod Try.underlying25 t1
      obtain ⟨n2, e2, w2⟩ := int_of_trod Try.underlying26 t2
      obtain ⟨l3, hb3, hl3⟩ := bs_of_trod Try.underlying27 Try.underlying5 cel5 byt5 g3 t3
      obtain ⟨l4, hb4, hl4⟩ := bs_of_trod Try.underlying27 Try.underlying5 cel5 byt5 g4 t4
      obtain ⟨l5, hb5, hl5⟩ := bs_of_trod Try.underlying27 Try.underlying5 cel5 byt5 g5 t5
      obtain ⟨l6, hb6, hl6⟩ := bs_of_trod Try.underlying27 Try.underlying5 cel5 byt5 g6 t6
      obtain ⟨l7, hb7, hl7⟩ := bs_of_trod Try.underlying27 Try.underlying5 cel5 byt5 g7 t7
      obtain ⟨n8, e8, w8⟩ := int_of_trod Try.underlying28 t8
      obtain ⟨n9, e9, w9⟩ := int_of_trod Try.underlying3 t9
      obtain ⟨n10, e10, w10⟩ := int_of_trod Try.underlying3 t10
      simp only [List.getElem_cons_zero, List.getElem_cons_succ] at e0 e1 e2 hb3 hb4 hb5 hb6 hb7 e8 e9 e10
      subst e0
      subst e1
      subst e2
      subst e8
      subst e9
      subst e10
      exact ⟨⟨n0, n1, n2, c3, l3, c4, l4, c5, l5, c6, l6, c7, l7, n8, n9, n10⟩, b, o, ha, ⟨hcell 0 (by omega), hcell 1 (by omega), hcell 2 (by omega), hcell 3 (by omega), hcell 4 (by omega), hcell 5 (by omega), hcell 6 (by omega), hcell 7 (by omega), hcell 8 (by omega), hcell 9 (by omega), hcell 10 (by omega), bounds_i64 w0, bounds_i64 w1, bounds_i64 w2, hb3, hl3, hb4, hl4, hb5, hl5, hb6, hl6, hb7, hl7, bounds_u32 w8, bounds_i64 w9, bounds_i64 w10⟩⟩
  have : Inhabited OpR := ⟨⟨0, 0, 0, undef, [], undef, [], undef, [], undef, [], undef, [], 0, 0, 0⟩⟩
  obtain ⟨f, hf⟩ := Deep.choose_lt hone
  refine ⟨(List.range n).map f, a, c, by simp, by simpa using hnc, hcm, fun k hk => ?_⟩
  have hk' : k < n := by simpa using hk
  simpa using hf k hk'
end Go.Proofs.Qxb6500769a
