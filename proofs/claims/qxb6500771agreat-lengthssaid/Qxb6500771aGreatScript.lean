/- The script of a law: a slice of structs; what its reading gives. Made by mkscript.py. -/
import Derived.Test.Qxb6500771aGreatRows
import Derived.Test.Qxb6500771aGreatOpen
namespace Go.Proofs.Qxb6500771aGreat
open Go.RowKit Go.Qm
set_option linter.unusedVariables false
set_option linter.unusedSimpArgs false

theorem cel31 : Tryz.prog.cellsOf 31 = 16 := by kernel_rfl
theorem cel24 : Tryz.prog.cellsOf 24 = 1 := by kernel_rfl
theorem cel25 : Tryz.prog.cellsOf 25 = 1 := by kernel_rfl
theorem cel26 : Tryz.prog.cellsOf 26 = 1 := by kernel_rfl
theorem cel27 : Tryz.prog.cellsOf 27 = 1 := by kernel_rfl
theorem cel28 : Tryz.prog.cellsOf 28 = 1 := by kernel_rfl
theorem cel5 : Tryz.prog.cellsOf 5 = 1 := by kernel_rfl
theorem cel29 : Tryz.prog.cellsOf 29 = 1 := by kernel_rfl
theorem cel4 : Tryz.prog.cellsOf 4 = 1 := by kernel_rfl
theorem cel3 : Tryz.prog.cellsOf 3 = 1 := by kernel_rfl
theorem byt5 : Tryz.prog.bytesOf 5 = 1 := by kernel_rfl

/-- One step of a script. -/
structure OpR where
  kind : Int
  etype : Int
  keyV : Value
  key : List UInt8
  usage : Int
  id : Int
  flags : Int
  ec : Int
  rrc : Int
  seq : Int
  confV : Value
  conf : List UInt8
  dataV : Value
  data : List UInt8
  fromAcc : Bool
  off : Int
  n : Int
  room : Int
  fill : Int

/-- The step lies at block b from cell q on. -/
structure OpAt (w : World) (b q : Nat) (s : OpR) : Prop where
  c0 : w.cell? ⟨b, q, none⟩ = some (.int .i64 s.kind)
  c1 : w.cell? ⟨b, q + 1, none⟩ = some (.int .i32 s.etype)
  c2 : w.cell? ⟨b, q + 2, none⟩ = some s.keyV
  c3 : w.cell? ⟨b, q + 3, none⟩ = some (.int .u32 s.usage)
  c4 : w.cell? ⟨b, q + 4, none⟩ = some (.int .u16 s.id)
  c5 : w.cell? ⟨b, q + 5, none⟩ = some (.int .u8 s.flags)
  c6 : w.cell? ⟨b, q + 6, none⟩ = some (.int .u16 s.ec)
  c7 : w.cell? ⟨b, q + 7, none⟩ = some (.int .u16 s.rrc)
  c8 : w.cell? ⟨b, q + 8, none⟩ = some (.int .u64 s.seq)
  c9 : w.cell? ⟨b, q + 9, none⟩ = some s.confV
  c10 : w.cell? ⟨b, q + 10, none⟩ = some s.dataV
  c11 : w.cell? ⟨b, q + 11, none⟩ = some (.bool s.fromAcc)
  c12 : w.cell? ⟨b, q + 12, none⟩ = some (.int .i64 s.off)
  c13 : w.cell? ⟨b, q + 13, none⟩ = some (.int .i64 s.n)
  c14 : w.cell? ⟨b, q + 14, none⟩ = some (.int .i64 s.room)
  c15 : w.cell? ⟨b, q + 15, none⟩ = some (.int .u8 s.fill)
  r0 : -9223372036854775808 ≤ s.kind ∧ s.kind ≤ 9223372036854775807
  r1 : -2147483648 ≤ s.etype ∧ s.etype ≤ 2147483647
  b2 : Bs w s.keyV s.key
  l2 : s.key.length ≤ reachBytes
  r3 : 0 ≤ s.usage ∧ s.usage ≤ 4294967295
  r4 : 0 ≤ s.id ∧ s.id ≤ 65535
  r5 : 0 ≤ s.flags ∧ s.flags ≤ 255
  r6 : 0 ≤ s.ec ∧ s.ec ≤ 65535
  r7 : 0 ≤ s.rrc ∧ s.rrc ≤ 65535
  r8 : 0 ≤ s.seq ∧ s.seq ≤ 18446744073709551615
  b9 : Bs w s.confV s.conf
  l9 : s.conf.length ≤ reachBytes
  b10 : Bs w s.dataV s.data
  l10 : s.data.length ≤ reachBytes
  r12 : -9223372036854775808 ≤ s.off ∧ s.off ≤ 9223372036854775807
  r13 : -9223372036854775808 ≤ s.n ∧ s.n ≤ 9223372036854775807
  r14 : -9223372036854775808 ≤ s.room ∧ s.room ≤ 9223372036854775807
  r15 : 0 ≤ s.fill ∧ s.fill ≤ 255

theorem OpAt.keep {w w' : World} {b q : Nat} {s : OpR} (h : OpAt w b q s) (k : Keep w w') : OpAt w' b q s :=
  ⟨k.cell h.c0, k.cell h.c1, k.cell h.c2, k.cell h.c3, k.cell h.c4, k.cell h.c5, k.cell h.c6, k.cell h.c7, k.cell h.c8, k.cell h.c9, k.cell h.c10, k.cell h.c11, k.cell h.c12, k.cell h.c13, k.cell h.c14, k.cell h.c15, h.r0, h.r1, h.b2.keep k, h.l2, h.r3, h.r4, h.r5, h.r6, h.r7, h.r8, h.b9.keep k, h.l9, h.b10.keep k, h.l10, h.r12, h.r13, h.r14, h.r15⟩

def Script (w : World) (v : Value) (ss : List OpR) : Prop :=
  ∃ a c, v = .slice a ss.length c ∧ ss.length ≤ c ∧ c ≤ maxLen ∧ ∀ k (hk : k < ss.length), ∃ b o, a = some ⟨b, o, none⟩ ∧ OpAt w b (o + k * 16) ss[k]

theorem Script.keep {w w' : World} {v : Value} {ss : List OpR} (h : Script w v ss) (k : Keep w w') : Script w' v ss := by
  obtain ⟨a, c, hv, h1, h2, h3⟩ := h
  exact ⟨a, c, hv, h1, h2, fun i hi => let ⟨b, o, ha, ho⟩ := h3 i hi; ⟨b, o, ha, ho.keep k⟩⟩

theorem script_of_trod {H : Type} {enc : TypeId × Value → H} {w : World} {base : Nat} {spare : Nat → Bool} {held : Bool} {v : Value} {d : DataW H} {ps : List MemPlace} (h : DataW.Trod enc Tryz.prog w base spare held 22 v d ps) (hL : Light Tryz.prog 22 d) (hv : v.cells = #[v]) :
    ∃ ss, Script w v ss := by
  obtain ⟨fuel, h⟩ := h
  rw [hv] at h
  obtain ⟨a, n, c, rfl, hnc, hcm, _, hall⟩ := rows_of_trod Tryz.underlying22 (by rw [cel31]; omega) hL h
  have hone : ∀ k, k < n → ∃ s : OpR, ∃ b o, a = some ⟨b, o, none⟩ ∧ OpAt w b (o + k * 16) s := fun k hk => by
    obtain ⟨b, o, cs, f', y, ha, hl, hcell, htr, hLy⟩ := hall k hk
    rw [cel31] at hl hcell
    match cs, hl with
    | [c0, c1, c2, c3, c4, c5, c6, c7, c8, c9, c10, c11, c12, c13, c14, c15], _ =>
      obtain ⟨m0, y0, t0, g0⟩ := field1_of_trod Tryz.underlying31 hLy htr 0 rfl cel24 (o := 0) rfl (by simp)
      obtain ⟨m1, y1, t1, g1⟩ := field1_of_trod Tryz.underlying31 hLy htr 1 rfl cel25 (o := 1) rfl (by simp)
      obtain ⟨m2, y2, t2, g2⟩ := field1_of_trod Tryz.underlying31 hLy htr 2 rfl cel26 (o := 2) rfl (by simp)
      obtain ⟨m3, y3, t3, g3⟩ := field1_of_trod Tryz.underlying31 hLy htr 3 rfl cel27 (o := 3) rfl (by simp)
      obtain ⟨m4, y4, t4, g4⟩ := field1_of_trod Tryz.underlying31 hLy htr 4 rfl cel28 (o := 4) rfl (by simp)
      obtain ⟨m5, y5, t5, g5⟩ := field1_of_trod Tryz.underlying31 hLy htr 5 rfl cel5 (o := 5) rfl (by simp)
      obtain ⟨m6, y6, t6, g6⟩ := field1_of_trod Tryz.underlying31 hLy htr 6 rfl cel28 (o := 6) rfl (by simp)
      obtain ⟨m7, y7, t7, g7⟩ := field1_of_trod Tryz.underlying31 hLy htr 7 rfl cel28 (o := 7) rfl (by simp)
      obtain ⟨m8, y8, t8, g8⟩ := field1_of_trod Tryz.underlying31 hLy htr 8 rfl cel29 (o := 8) rfl (by simp)
      obtain ⟨m9, y9, t9, g9⟩ := field1_of_trod Tryz.underlying31 hLy htr 9 rfl cel26 (o := 9) rfl (by simp)
      obtain ⟨m10, y10, t10, g10⟩ := field1_of_trod Tryz.underlying31 hLy htr 10 rfl cel26 (o := 10) rfl (by simp)
      obtain ⟨m11, y11, t11, g11⟩ := field1_of_trod Tryz.underlying31 hLy htr 11 rfl cel4 (o := 11) rfl (by simp)
      obtain ⟨m12, y12, t12, g12⟩ := field1_of_trod Tryz.underlying31 hLy htr 12 rfl cel3 (o := 12) rfl (by simp)
      obtain ⟨m13, y13, t13, g13⟩ := field1_of_trod Tryz.underlying31 hLy htr 13 rfl cel3 (o := 13) rfl (by simp)
      obtain ⟨m14, y14, t14, g14⟩ := field1_of_trod Tryz.underlying31 hLy htr 14 rfl cel3 (o := 14) rfl (by simp)
      obtain ⟨m15, y15, t15, g15⟩ := field1_of_trod Tryz.underlying31 hLy htr 15 rfl cel5 (o := 15) rfl (by simp)
      obtain ⟨n0, e0, w0⟩ := int_of_trod Tryz.underlying24 t0
      obtain ⟨n1, e1, w1⟩ := int_of_trod Tryz.underlying25 t1
      obtain ⟨l2, hb2, hl2⟩ := bs_of_trod Tryz.underlying26 Tryz.underlying5 cel5 byt5 g2 t2
      obtain ⟨n3, e3, w3⟩ := int_of_trod Tryz.underlying27 t3
      obtain ⟨n4, e4, w4⟩ := int_of_trod Tryz.underlying28 t4
      obtain ⟨n5, e5, w5⟩ := int_of_trod Tryz.underlying5 t5
      obtain ⟨n6, e6, w6⟩ := int_of_trod Tryz.underlying28 t6
      obtain ⟨n7, e7, w7⟩ := int_of_trod Tryz.underlying28 t7
      obtain ⟨n8, e8, w8⟩ := int_of_trod Tryz.underlying29 t8
      obtain ⟨l9, hb9, hl9⟩ := bs_of_trod Tryz.underlying26 Tryz.underlying5 cel5 byt5 g9 t9
      obtain ⟨l10, hb10, hl10⟩ := bs_of_trod Tryz.underlying26 Tryz.underlying5 cel5 byt5 g10 t10
      obtain ⟨n11, e11⟩ := bool_of_trod Tryz.underlying4 t11
      obtain ⟨n12, e12, w12⟩ := int_of_trod Tryz.underlying3 t12
      obtain ⟨n13, e13, w13⟩ := int_of_trod Tryz.underlying3 t13
      obtain ⟨n14, e14, w14⟩ := int_of_trod Tryz.underlying3 t14
      obtain ⟨n15, e15, w15⟩ := int_of_trod Tryz.underlying5 t15
      simp only [List.getElem_cons_zero, List.getElem_cons_succ] at e0 e1 hb2 e3 e4 e5 e6 e7 e8 hb9 hb10 e11 e12 e13 e14 e15
      subst e0
      subst e1
      subst e3
      subst e4
      subst e5
      subst e6
      subst e7
      subst e8
      subst e11
      subst e12
      subst e13
      subst e14
      subst e15
      exact ⟨⟨n0, n1, c2, l2, n3, n4, n5, n6, n7, n8, c9, l9, c10, l10, n11, n12, n13, n14, n15⟩, b, o, ha, ⟨hcell 0 (by omega), hcell 1 (by omega), hcell 2 (by omega), hcell 3 (by omega), hcell 4 (by omega), hcell 5 (by omega), hcell 6 (by omega), hcell 7 (by omega), hcell 8 (by omega), hcell 9 (by omega), hcell 10 (by omega), hcell 11 (by omega), hcell 12 (by omega), hcell 13 (by omega), hcell 14 (by omega), hcell 15 (by omega), bounds_i64 w0, bounds_i32 w1, hb2, hl2, bounds_u32 w3, bounds_u16 w4, bounds_u8 w5, bounds_u16 w6, bounds_u16 w7, bounds_u64 w8, hb9, hl9, hb10, hl10, bounds_i64 w12, bounds_i64 w13, bounds_i64 w14, bounds_u8 w15⟩⟩
  have : Inhabited OpR := ⟨⟨0, 0, undef, [], 0, 0, 0, 0, 0, 0, undef, [], undef, [], false, 0, 0, 0, 0⟩⟩
  obtain ⟨f, hf⟩ := Deep.choose_lt hone
  refine ⟨(List.range n).map f, a, c, by simp, by simpa using hnc, hcm, fun k hk => ?_⟩
  have hk' : k < n := by simpa using hk
  simpa using hf k hk'
end Go.Proofs.Qxb6500771aGreat
