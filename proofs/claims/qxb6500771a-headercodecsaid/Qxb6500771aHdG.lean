/- Laws for the walk of HeaderCodec: a variable of sixteen cells at once; what stands along a round. -/
import Derived.Test.Qxb6500771aHdE
import Derived.Test.Qxb6500771aSmall
import Derived.Deep.CutRange
import Derived.Deep.MidRow
import Derived.Deep.WholeRow
namespace Go.Proofs.Qxb6500771a
open Go.RowKit Go.Qm
set_option linter.unusedVariables false
set_option linter.unusedSimpArgs false

theorem siz31 : (Try.prog.info? 31).map (·.size) = some 16 := by kernel_rfl
theorem wp_alloc31 {o : Oper} {a : Act} {w : World} {K : Act → World → Prop} {Q : Exit → Act → World → Prop} (ho : o.op = .alloc 31)
    (h : ∀ c : Array Value, c.size = 16 → K (a.put o.dst (.pointer (some ⟨w.heap.size, 0, none⟩))) (w.alloc (.cells c 31))) : o.wp Try.prog a w K Q := by
  unfold Oper.wp execOp
  simp only [ho]
  simp [go_sem]
  exact h _ rfl
theorem wpList_store_new {P : Program} {ops : Array Oper} {rest : List Oper} {op : Oper} {a : Act} {W : World} {Q : Exit → Act → World → Prop} (hgd : op.guard = none) (ty : TypeId) (x y : Operand) (ho : op.op = .store ty x y)
    (w : World) {c : Array Value} (hW : W = w.alloc (.cells c ty)) (cells : Array Value) (hx : a.eval x = .pointer (some ⟨w.heap.size, 0, none⟩)) (hy : a.eval y = .agg cells)
    (hi : (P.info? ty).map (·.size) = some cells.size) (hc : c.size = cells.size) (h1 : cells.all (·.oneCell') = true)
    (h : wpList P ops Q rest (a.put op.dst undef) (w.alloc (.cells cells ty))) : wpList P ops Q (op :: rest) a W := by
  subst hW
  refine wpList_plain hgd fun _ hK => ?_
  unfold Oper.wp execOp
  simp only [ho, hx, hy, Instr.storeAt, Instr.sureAddr, Sem.run_bind, Sem.run_pure, Result.andThen_ok, run_storeVar_new w ty c cells hi hc h1]
  exact hK _ _ h
/-- A variable of the step's type, made and laid: two operations at once, whatever its cells. -/
theorem wpList_var31 {ops : Array Oper} {rest : List Oper} {o1 o2 : Oper} {a : Act} {w : World} {Q : Exit → Act → World → Prop} (g1 : o1.guard = none) (g2 : o2.guard = none) (h1 : o1.op = .alloc 31) (x y : Operand) (h2 : o2.op = .store 31 x y)
    (cells : Array Value) (hx : (a.put o1.dst (.pointer (some ⟨w.heap.size, 0, none⟩))).eval x = .pointer (some ⟨w.heap.size, 0, none⟩)) (hy : (a.put o1.dst (.pointer (some ⟨w.heap.size, 0, none⟩))).eval y = .agg cells)
    (hs : cells.size = 16) (hone : cells.all (·.oneCell') = true)
    (h : wpList Try.prog ops Q rest ((a.put o1.dst (.pointer (some ⟨w.heap.size, 0, none⟩))).put o2.dst undef) (w.alloc (.cells cells 31))) : wpList Try.prog ops Q (o1 :: o2 :: rest) a w :=
  wpList_plain g1 fun _ hK => wp_alloc31 h1 fun c hc => hK _ _ (wpList_store_new g2 31 x y h2 w rfl cells hx hy (by rw [hs]; exact siz31) (by omega) hone h)

/-- What stands along one round: the step's own copy, the header h, its octets. -/
structure St (wr W : World) (g4 g8 ge : Nat) (L : List Value) (I F E R sq : Nat) : Prop where
  keep : Keep wr W
  op : W.heap[g4]? = some (.cells L.toArray 31 (0, 0))
  hd : Five W g8 (.int .u16 I) (.int .u8 F) (.int .u16 E) (.int .u16 R) (.int .u64 sq)
  en : Win W ge 5 [] (enc I F E R sq) []
  l4 : wr.heap.size ≤ g4
  l8 : wr.heap.size ≤ g8
  le : wr.heap.size ≤ ge
theorem St.step {wr W W' : World} {g4 g8 ge : Nat} {L : List Value} {I F E R sq : Nat} (h : St wr W g4 g8 ge L I F E R sq) (k : Keep W W') : St wr W' g4 g8 ge L I F E R sq :=
  ⟨h.keep.trans k, k.heap h.op, h.hd.keep k, h.en.keep k, h.l4, h.l8, h.le⟩
theorem St.kept {wr W W' : World} {g4 g8 ge g' : Nat} {L : List Value} {I F E R sq : Nat} (h : St wr W g4 g8 ge L I F E R sq) (k : W.grownBy W' (some g')) (h0 : wr.heap.size ≤ g') (h4 : g4 ≠ g') (h8 : g8 ≠ g') (he : ge ≠ g') : St wr W' g4 g8 ge L I F E R sq :=
  ⟨h.keep.grown k (fun q hq => by simp at hq; omega), by rw [k.block g4 (blk_lt h.op) (by simpa using h4)]; exact h.op, h.hd.kept k h8, h.en.kept k he, h.l4, h.l8, h.le⟩
theorem St.lt {wr W : World} {g4 g8 ge : Nat} {L : List Value} {I F E R sq : Nat} (h : St wr W g4 g8 ge L I F E R sq) : g4 < W.heap.size ∧ g8 < W.heap.size ∧ ge < W.heap.size := ⟨blk_lt h.op, blk_lt h.hd, h.en.lt⟩
theorem St.drew {wr W : World} {g4 g8 ge : Nat} {L : List Value} {I F E R sq : Nat} (h : St wr W g4 g8 ge L I F E R sq) : St wr W.drew g4 g8 ge L I F E R sq := h.step (Keep.refl W).drew
theorem St.bs {wr W : World} {g4 g8 ge : Nat} {L : List Value} {I F E R sq : Nat} (h : St wr W g4 g8 ge L I F E R sq) : Bs W (.slice (some ⟨ge, 0, none⟩) 16 16) (enc I F E R sq) := by
  have := (Own.of_win (B := 0) (cap := 16) (Nat.zero_le _) h.en (by rw [enc_length]; rfl) (by simp [maxLen])).bs
  rwa [enc_length] at this

def plc (v : Int) (n : Nat) : Nat := (v % (n + 1)).toNat
theorem plc_le (v : Int) (n : Nat) : plc v n ≤ n := by
  have := Int.emod_lt_of_pos v (show (0 : Int) < n + 1 by omega)
  unfold plc; omega
theorem place15_c (v : Int) (w : World) (hv : -9223372036854775808 ≤ v ∧ v ≤ 9223372036854775807) : Calls Try.prog 20 #[.int .i64 v, .int .i64 15] w fun e w' => e = .returned (.int .i64 (plc v 15)) ∧ Keep w w' := by
  have h := place_c v 15 w (by omega) (by omega) hv.1 hv.2
  have e : v % (15 + 1) = (plc v 15 : Int) := by
    have := Int.emod_nonneg v (show (15 + 1 : Int) ≠ 0 by omega)
    unfold plc; omega
  rw [e] at h; exact h
theorem place4_c (v : Int) (w : World) (hv : -9223372036854775808 ≤ v ∧ v ≤ 9223372036854775807) : Calls Try.prog 20 #[.int .i64 v, .int .i64 4] w fun e w' => e = .returned (.int .i64 (plc v 4)) ∧ Keep w w' := by
  have h := place_c v 4 w (by omega) (by omega) hv.1 hv.2
  have e : v % (4 + 1) = (plc v 4 : Int) := by
    have := Int.emod_nonneg v (show (4 + 1 : Int) ≠ 0 by omega)
    unfold plc; omega
  rw [e] at h; exact h

theorem appendHeader_any (a : Option Addr) (id f ec rrc sq : Nat) (w : World) (hid : id < 65536) (hf : f < 256) (hec : ec < 65536) (hrrc : rrc < 65536) (hsq : sq < 2 ^ 64) :
    Calls Try.prog 9 #[.slice a 0 0, .agg #[.int .u16 id, .int .u8 f, .int .u16 ec, .int .u16 rrc, .int .u64 sq]] w fun e w' =>
      ∃ a' n, e = .returned (.tuple #[.slice a' n n, .int .i64 (chk id f ec rrc)]) ∧ (chk id f ec rrc = 0 ∨ n = 0) ∧ Keep w w' := by
  by_cases hc : chk id f ec rrc = 0
  · refine (appendHeader_ok a id f ec rrc sq w hid hf hec hrrc hsq hc).mono ?_
    rintro e w' ⟨g, rfl, _, _, k⟩
    exact ⟨_, 16, by rw [hc]; rfl, Or.inl hc, k⟩
  · refine (appendHeader_bad a id f ec rrc sq w hid hf hc).mono ?_
    rintro e w' ⟨rfl, k⟩
    exact ⟨_, 0, rfl, Or.inr rfl, k⟩

/-- The cells of a step, the fields that the law reads. -/
def OpV (L : List Value) (id f ec rrc sq : Nat) (fb : UInt8) (off n room : Int) (dv : Value) : Prop :=
  ∃ k0 e1 v2 u3 q9 q11 : Value, L = [k0, e1, v2, u3, .int .u16 id, .int .u8 f, .int .u16 ec, .int .u16 rrc, .int .u64 sq, q9, dv, q11, .int .i64 off, .int .i64 n, .int .i64 room, .int .u8 fb.toNat]
section
variable {L : List Value} {id f ec rrc sq : Nat} {fb : UInt8} {off n room : Int} {dv : Value}
theorem OpV.size (h : OpV L id f ec rrc sq fb off n room dv) : L.length = 16 := by
  obtain ⟨k0, e1, v2, u3, q9, q11, rfl⟩ := h; rfl
theorem OpV.siz (h : OpV L id f ec rrc sq fb off n room dv) : (Try.prog.info? 31).map (·.size) = some L.toArray.size := by
  rw [List.size_toArray, h.size]; exact siz31
theorem OpV.cells (h : OpV L id f ec rrc sq fb off n room dv) {w : World} {g : Nat} (hg : w.heap[g]? = some (.cells L.toArray 31 (0, 0))) :
    w.cell? ⟨g, 4, none⟩ = some (.int .u16 id) ∧ w.cell? ⟨g, 5, none⟩ = some (.int .u8 f) ∧ w.cell? ⟨g, 10, none⟩ = some dv ∧ w.cell? ⟨g, 12, none⟩ = some (.int .i64 off) ∧ w.cell? ⟨g, 13, none⟩ = some (.int .i64 n) ∧ w.cell? ⟨g, 15, none⟩ = some (.int .u8 fb.toNat) := by
  obtain ⟨k0, e1, v2, u3, q9, q11, rfl⟩ := h
  refine ⟨?_, ?_, ?_, ?_, ?_, ?_⟩ <;> rw [blk_cell hg] <;> rfl
theorem headerOf_L (h : OpV L id f ec rrc sq fb off n room dv) (w : World) : Calls Try.prog 8 #[.agg L.toArray] w fun e w' =>
    e = .returned (.agg #[.int .u16 id, .int .u8 f, .int .u16 ec, .int .u16 rrc, .int .u64 sq]) ∧ Keep w w' := by
  obtain ⟨k0, e1, v2, u3, q9, q11, rfl⟩ := h
  exact headerOf_c _ _ _ _ _ _ _ id f ec rrc sq _ _ _ _ w
theorem wellFormed_L (h : OpV L id f ec rrc sq fb off n room dv) (w : World) (hid : id < 65536) (hf : f < 256) : Calls Try.prog 12 #[.agg L.toArray] w fun e w' =>
    e = .returned (.agg #[.int .u16 (wfId id), .int .u8 (wfF id f), .int .u16 (wfE id ec), .int .u16 (wfE id rrc), .int .u64 sq]) ∧ Keep w w' := by
  obtain ⟨k0, e1, v2, u3, q9, q11, rfl⟩ := h
  exact wellFormed_c _ _ _ _ _ _ _ id f ec rrc sq _ _ _ _ w hid hf
theorem lend_L (h : OpV L id f ec rrc sq fb off n room dv) (w : World) (hr : -9223372036854775808 ≤ room) (hr1 : room ≤ 9223372036854775807) : Calls Try.prog 15 #[.agg L.toArray, .int .i64 16] w fun e w' =>
    ∃ v', e = .returned v' ∧ Own w.heap.size 5 w' v' ((List.replicate (16 + (room % 4097).toNat) fb).map cb) ∧ Keep w w' := by
  obtain ⟨k0, e1, v2, u3, q9, q11, rfl⟩ := h
  exact lend_c _ _ _ _ _ _ _ _ _ _ _ _ _ _ room fb w hr hr1
theorem untouched_L (h : OpV L id f ec rrc sq fb off n room dv) (v : Value) (l : List UInt8) (w : World) (hb : Bs w v l) (hl : l.length ≤ 1000000) : Calls Try.prog 18 #[v, .agg L.toArray] w fun e w' =>
    e = .returned (.bool (decide (l = List.replicate l.length fb))) ∧ Keep w w' := by
  obtain ⟨k0, e1, v2, u3, q9, q11, rfl⟩ := h
  exact untouched_c v _ _ _ _ _ _ _ _ _ _ _ _ _ _ _ fb l w hb hl
/-- The step's cells out of the script. -/
theorem OpAt.opv {w : World} {b q : Nat} {s : OpR} (h : OpAt w b q s) : ∃ (L : List Value) (id ec rrc sq : Nat) (fx fb : UInt8) (aD : Option Addr) (dD : Nat),
    OpV L id fx.toNat ec rrc sq fb s.off s.n s.room (.slice aD s.data.length dD) ∧ L.toArray.all (·.oneCell') = true ∧ w.rangeAt b q L ∧ Bs w (.slice aD s.data.length dD) s.data ∧
    id < 65536 ∧ ec < 65536 ∧ rrc < 65536 ∧ sq < 2 ^ 64 := by
  obtain ⟨c0, c1, c2, c3, c4, c5, c6, c7, c8, c9, c10, c11, c12, c13, c14, c15, -, -, hb2, -, -, r4, r5, r6, r7, r8, hb9, -, hb10, -, r12, r13, r14, r15⟩ := h
  obtain ⟨a2, d2, e2, -, -, -⟩ := hb2.form
  obtain ⟨a9, d9, e9, -, -, -⟩ := hb9.form
  obtain ⟨aD, dD, e10, hD1, hD2, -⟩ := hb10.form
  rw [e2] at c2
  rw [e9] at c9
  rw [e10] at c10 hb10
  obtain ⟨id, hid⟩ := Int.eq_ofNat_of_zero_le r4.1
  obtain ⟨fx, hf⟩ : ∃ fx : UInt8, s.flags = (fx.toNat : Int) := ⟨UInt8.ofNat s.flags.toNat, by rw [ofNat_toNat (by omega)]; omega⟩
  obtain ⟨ec, hec⟩ := Int.eq_ofNat_of_zero_le r6.1
  obtain ⟨rrc, hrrc⟩ := Int.eq_ofNat_of_zero_le r7.1
  obtain ⟨sq, hsq⟩ := Int.eq_ofNat_of_zero_le r8.1
  obtain ⟨fb, hfl⟩ : ∃ fb : UInt8, s.fill = (fb.toNat : Int) := ⟨UInt8.ofNat s.fill.toNat, by rw [ofNat_toNat (by omega)]; omega⟩
  rw [hid] at r4 c4
  rw [hf] at r5 c5
  rw [hec] at r6 c6
  rw [hrrc] at r7 c7
  rw [hsq] at r8 c8
  rw [hfl] at r15 c15
  refine ⟨_, id, ec, rrc, sq, fx, fb, aD, dD, ⟨.int .i64 s.kind, .int .i32 s.etype, .slice a2 s.key.length d2, .int .u32 s.usage, .slice a9 s.conf.length d9, .bool s.fromAcc, rfl⟩, by simp [Value.oneCell'], ?_, hb10, by omega, by omega, by omega, by omega⟩
  intro j v hv
  match j, hv with
  | 0, hv => simp at hv; subst hv; exact c0
  | 1, hv => simp at hv; subst hv; exact c1
  | 2, hv => simp at hv; subst hv; exact c2
  | 3, hv => simp at hv; subst hv; exact c3
  | 4, hv => simp at hv; subst hv; exact c4
  | 5, hv => simp at hv; subst hv; exact c5
  | 6, hv => simp at hv; subst hv; exact c6
  | 7, hv => simp at hv; subst hv; exact c7
  | 8, hv => simp at hv; subst hv; exact c8
  | 9, hv => simp at hv; subst hv; exact c9
  | 10, hv => simp at hv; subst hv; exact c10
  | 11, hv => simp at hv; subst hv; exact c11
  | 12, hv => simp at hv; subst hv; exact c12
  | 13, hv => simp at hv; subst hv; exact c13
  | 14, hv => simp at hv; subst hv; exact c14
  | 15, hv => simp at hv; subst hv; exact c15
  | j + 16, hv => simp at hv
end
theorem op16_cells {w : World} {g : Nat} {k0 e1 v2 u3 x4 x5 x6 x7 x8 q9 q10 q11 o12 o13 o14 o15 : Value} (h : w.heap[g]? = some (.cells [k0, e1, v2, u3, x4, x5, x6, x7, x8, q9, q10, q11, o12, o13, o14, o15].toArray 31 (0, 0))) :
    w.cell? ⟨g, 0, none⟩ = some k0 ∧ w.cell? ⟨g, 1, none⟩ = some e1 ∧ w.cell? ⟨g, 2, none⟩ = some v2 ∧ w.cell? ⟨g, 3, none⟩ = some u3 ∧ w.cell? ⟨g, 4, none⟩ = some x4 ∧ w.cell? ⟨g, 5, none⟩ = some x5 ∧ w.cell? ⟨g, 6, none⟩ = some x6 ∧ w.cell? ⟨g, 7, none⟩ = some x7 ∧
    w.cell? ⟨g, 8, none⟩ = some x8 ∧ w.cell? ⟨g, 9, none⟩ = some q9 ∧ w.cell? ⟨g, 10, none⟩ = some q10 ∧ w.cell? ⟨g, 11, none⟩ = some q11 ∧ w.cell? ⟨g, 12, none⟩ = some o12 ∧ w.cell? ⟨g, 13, none⟩ = some o13 ∧ w.cell? ⟨g, 14, none⟩ = some o14 ∧ w.cell? ⟨g, 15, none⟩ = some o15 := by
  refine ⟨?_, ?_, ?_, ?_, ?_, ?_, ?_, ?_, ?_, ?_, ?_, ?_, ?_, ?_, ?_, ?_⟩ <;> rw [blk_cell h] <;> rfl

theorem Win.bs {w : World} {g : Nat} {pre post : List Value} {l : List UInt8} (h : Win w g 5 pre l post) {o n c : Nat} (ho : o = pre.length) (hn : n = l.length) (hc : n ≤ c) (hm : c ≤ maxLen) : Bs w (.slice (some ⟨g, o, none⟩) n c) l := by
  subst ho hn
  refine ⟨some ⟨g, pre.length, none⟩, c, by simp, by simpa using hc, hm, fun j u hu => ⟨g, pre.length, rfl, ?_⟩⟩
  rw [blk_cell h, List.append_assoc, List.getElem?_append_right (by omega), Nat.add_sub_cancel_left]
  rw [List.getElem?_append_left (by have := (List.getElem?_eq_some_iff.1 hu).1; exact this)]
  exact hu
theorem put_head {w : World} {g c m : Nat} {fb : UInt8} {I F E R sq : Nat} {sp : List Value} (h : Win w g 5 [] (enc I F E R sq ++ (List.replicate (16 + m) fb).drop 16) sp) (hc : 16 ≤ c) (hm : c ≤ maxLen) : Bs w (.slice (some ⟨g, 0, none⟩) 16 c) (enc I F E R sq) := by
  have h' : Win w g 5 [] (enc I F E R sq) (((List.replicate (16 + m) fb).drop 16).map cb ++ sp) := h.cut (by simp)
  exact Win.bs h' rfl (enc_length _ _ _ _ _).symm hc hm
theorem put_tail {w : World} {g c m : Nat} {fb : UInt8} {I F E R sq : Nat} {sp : List Value} (h : Win w g 5 [] (enc I F E R sq ++ (List.replicate (16 + m) fb).drop 16) sp) (hc : m ≤ c) (hm : c ≤ maxLen) : Bs w (.slice (some ⟨g, 16, none⟩) m c) (List.replicate m fb) := by
  have e : (List.replicate (16 + m) fb).drop 16 = List.replicate m fb := by simp
  rw [e] at h
  have h' : Win w g 5 ((enc I F E R sq).map cb) (List.replicate m fb) sp := h.cut (by simp)
  exact Win.bs h' (by rw [List.length_map, enc_length]) (by simp) hc hm
end Go.Proofs.Qxb6500771a
