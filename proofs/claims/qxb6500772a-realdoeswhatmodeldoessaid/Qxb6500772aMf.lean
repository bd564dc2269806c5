/- blastm: Check, Init, Legal, Trans, Bad, Step. -/
import Derived.Test.Qxb6500772aMe
import Derived.Test.Qxb6500772aMb
import Derived.Test.Qxb6500772aMc
import Derived.Test.Qxb6500772aSb
import Derived.Test.Qxb6500772aUk
import Derived.Test.Qxb6500772aTk
namespace Go.Proofs.Qxb6500772a
open Go Go.RowKit Go.Qm
set_option linter.unusedVariables false
set_option linter.unusedSimpArgs false
attribute [local go_sem ↓] Go.wp_at_zero Go.wp_at_succ
/-- A well typed program in memory. -/
structure PRG (P : Nat → Prop) (w : World) (cels : List Cel) (body : SL) (f : EF) (t : EL) (cv bv kv : Value) : Prop where
  cs : CsW P w cv cels
  bd : ∃ brows, Rows P w bv 8 brows ∧ SLW P w body brows
  ef : EFr f
  kd : ∃ rows, Rows P w kv 7 rows ∧ ELW P w t rows
  cl : cels.length ≤ 1000000
  pl : ∀ q, P q → q < w.heap.size
  cw : ∀ c ∈ cels, 1 ≤ c.w ∧ c.w ≤ 64
  wb : wtS (cels.map (·.w)) body
  wl : wtL (cels.map (·.w)) t
  wo : wtOne (cels.map (·.w)) f t.ws
  ex : ExC P cels f body
theorem PRG.keep {P : Nat → Prop} {w w' : World} {cels : List Cel} {body : SL} {f : EF} {t : EL} {cv bv kv : Value} (h : PRG P w cels body f t cv bv kv) (k : Keep w w') : PRG P w' cels body f t cv bv kv := by
  have kp : KP P w w' := KP.of k
  obtain ⟨br, b1, b2⟩ := h.bd
  obtain ⟨kr, k1, k2⟩ := h.kd
  exact ⟨h.cs.step kp, ⟨br, b1.step kp, b2.step kp⟩, h.ef, ⟨kr, k1.step kp, k2.step kp⟩, h.cl, fun q a => Nat.lt_of_lt_of_le (h.pl q a) k.size, h.cw, h.wb, h.wl, h.wo, h.ex⟩
theorem PRG.sb {P : Nat → Prop} {w : World} {cels : List Cel} {body : SL} {f : EF} {t : EL} {cv bv kv : Value} (h : PRG P w cels body f t cv bv kv) : isSl bv := by
  obtain ⟨br, b1, b2⟩ := h.bd
  exact b1.sl
theorem PRG.sk {P : Nat → Prop} {w : World} {cels : List Cel} {body : SL} {f : EF} {t : EL} {cv bv kv : Value} (h : PRG P w cels body f t cv bv kv) : isSl kv := by
  obtain ⟨br, b1, b2⟩ := h.kd
  exact b1.sl
theorem stok_len {cels : List Cel} {S : PS} (h : StOK (cels.map (·.w)) S) : S.cells.length = cels.length := by have := h.1; simpa using this
/-- A state that is answered. -/
def RSt (w : World) (S : PS) (e : Ending) (w' : World) : Prop := ∃ a c, e = .returned (.agg #[.slice a S.cells.length c, .bool S.fault]) ∧ Vs w' (.slice a S.cells.length c) S.cells ∧ Keep w w'
theorem NewC.rst {B : Nat} {w w' : World} {S : PS} {e : Ending} (h : NewC B w' S e) (k : Keep w w') : RSt w S e w' := by
  obtain ⟨gC, ca, cap, sp, rfl, cl, -, -⟩ := h
  exact ⟨ca, cap, rfl, cl.vs, k⟩
theorem NewS.rst {B : Nat} {w w' : World} {S : PS} {e : Ending} (h : NewS B w' S e) (k : Keep w w') : RSt w S e w' := by
  obtain ⟨v, rfl, ow⟩ := h
  rcases ow.form with ⟨rfl, e⟩ | ⟨g, cap, sp, rfl, hB, hg, hc, hm⟩
  · have e1 : S.cells = [] := List.map_eq_nil_iff.1 e
    exact ⟨none, 0, by rw [e1]; rfl, by rw [e1]; exact ⟨none, 0, rfl, by simp, by simp [maxLen], fun k u hu => by simp at hu⟩, k⟩
  · rw [List.length_map] at hc
    have cl : Cl w' g (some ⟨g, 0, none⟩) cap sp S.cells := ⟨fun _ => ⟨rfl, hg⟩, by omega, hm⟩
    exact ⟨_, _, by rw [List.length_map], cl.vs, k⟩
set_option maxRecDepth 4000 in
set_option maxHeartbeats 4000000 in
theorem legal_m {P : Nat → Prop} {w : World} {cels : List Cel} {body : SL} {f : EF} {t : EL} {cv bv kv : Value} (h : PRG P w cels body f t cv bv kv) {sa : Option Addr} {sc : Nat} {S : PS} (hS : Vs w (.slice sa S.cells.length sc) S.cells) (okS : StOK (cels.map (·.w)) S) :
    Calls Try.prog 44 #[prA cv bv f kv, .agg #[.slice sa S.cells.length sc, .bool S.fault]] w fun e w' => e = .returned (.bool (allC cels (legB S) cels.length)) ∧ Keep w w' := by
  obtain ⟨pa, pc, rfl, pc1, pc2⟩ := h.cs.form
  obtain ⟨ba, bm, bc, rfl⟩ := h.sb
  obtain ⟨ka, km, kc, rfl⟩ := h.sk
  unfold maxLen at pc2
  have HH := Hid.mk h
  simp only [prA]
  obtain ⟨W1, hW1⟩ : ∃ W1, W1 = w.alloc (.cells #[.slice pa cels.length pc, .slice ba bm bc, .int .i64 f.k, .int .i64 f.w, .int .i64 f.o, .int .u64 (f.v : Nat), .int .i64 f.c, .int .i64 f.l, .slice ka km kc] 33) := ⟨_, rfl⟩
  have k1 : Keep w W1 := by rw [hW1]; exact (Keep.refl w).alloc _
  have z1 : W1.heap.size = w.heap.size + 1 := by rw [hW1]; simp
  have b1 : Arr W1 w.heap.size 33 [.slice pa cels.length pc, .slice ba bm bc, .int .i64 f.k, .int .i64 f.w, .int .i64 f.o, .int .u64 (f.v : Nat), .int .i64 f.c, .int .i64 f.l, .slice ka km kc] := by rw [hW1]; exact Arr.new w 33 _
  obtain ⟨W2, hW2⟩ : ∃ W2, W2 = W1.alloc (.cells #[.slice sa S.cells.length sc, .bool S.fault] 37) := ⟨_, rfl⟩
  have k2 : Keep W1 W2 := by rw [hW2]; exact (Keep.refl W1).alloc _
  have z2 : W2.heap.size = w.heap.size + 2 := by rw [hW2]; simp [z1]
  have b2 : Arr W2 (w.heap.size + 1) 37 [.slice sa S.cells.length sc, .bool S.fault] := by rw [← z1, hW2]; exact Arr.new W1 37 _
  have A1 := (b1.keep k2)
  have A2 := b2
  have kW := (k1.trans k2)
  have HKW := Hid.mk kW
  clear k1 z1 b1 k2 z2 b2
  have HCA := Hid.mk (legM_c (f := f) (HH.out.keep kW).cl HH.out.cw (HH.out.keep kW).cs ⟨ba, bm, bc, rfl⟩ ⟨ka, km, kc, rfl⟩ (Sl.keep hS kW) okS)
  simp only [prA] at HCA
  clear h hS okS
  go_enter Try.func44, Try.ntmps44
  go_upto_region 1 with fail
  rw [← hW1, ← hW2]
  clear hW1 hW2
  obtain ⟨g2, hg2⟩ : ∃ g2, g2 = w.heap.size + 1 := ⟨_, rfl⟩
  obtain ⟨g1, hg1⟩ : ∃ g1, g1 = w.heap.size := ⟨_, rfl⟩
  try simp only [Nat.add_assoc, Nat.reduceAdd]
  rw [← hg2] at A2 ⊢
  rw [← hg1] at A1 ⊢
  have HA2 := Hid.mk A2
  have HA1 := Hid.mk A1
  clear hg2 hg1
  have p0 : W2.cell? ⟨g1, 0, none⟩ = some (.slice pa cels.length pc) := A1.cell 0
  have p1 : W2.cell? ⟨g1, 1, none⟩ = some (.slice ba bm bc) := A1.cell 1
  have p2 : W2.cell? ⟨g1, 2, none⟩ = some (.int .i64 f.k) := A1.cell 2
  have p3 : W2.cell? ⟨g1, 3, none⟩ = some (.int .i64 f.w) := A1.cell 3
  have p4 : W2.cell? ⟨g1, 4, none⟩ = some (.int .i64 f.o) := A1.cell 4
  have p5 : W2.cell? ⟨g1, 5, none⟩ = some (.int .u64 (f.v : Nat)) := A1.cell 5
  have p6 : W2.cell? ⟨g1, 6, none⟩ = some (.int .i64 f.c) := A1.cell 6
  have p7 : W2.cell? ⟨g1, 7, none⟩ = some (.int .i64 f.l) := A1.cell 7
  have p8 : W2.cell? ⟨g1, 8, none⟩ = some (.slice ka km kc) := A1.cell 8
  have s0 : W2.cell? ⟨g2, 0, none⟩ = some (.slice sa S.cells.length sc) := A2.cell 0
  have s1 : W2.cell? ⟨g2, 1, none⟩ = some (.bool S.fault) := A2.cell 1
  clear A1 A2
  go_wp2_with fail
  refine HCA.out.mono ?_
  rintro e y ⟨rfl, ky⟩
  go_wp2_with fail
  go_ret
  exact ⟨rfl, HKW.out.trans ky⟩
set_option maxRecDepth 4000 in
set_option maxHeartbeats 4000000 in
theorem bad84_m {P : Nat → Prop} {w : World} {cels : List Cel} {body : SL} {f : EF} {t : EL} {cv bv kv : Value} (h : PRG P w cels body f t cv bv kv) {sa : Option Addr} {sc : Nat} {S : PS} (hS : Vs w (.slice sa S.cells.length sc) S.cells) (okS : StOK (cels.map (·.w)) S) :
    Calls Try.prog 84 #[prA cv bv f kv, .agg #[.slice sa S.cells.length sc, .bool S.fault]] w fun e w' => e = .returned (.bool (decide ((evOne f (evL t S) t.ws S).1 = 1))) ∧ Keep w w' := by
  obtain ⟨pa, pc, rfl, pc1, pc2⟩ := h.cs.form
  obtain ⟨ba, bm, bc, rfl⟩ := h.sb
  obtain ⟨ka, km, kc, rfl⟩ := h.sk
  unfold maxLen at pc2
  have HH := Hid.mk h
  simp only [prA]
  obtain ⟨W1, hW1⟩ : ∃ W1, W1 = w.alloc (.cells #[.slice pa cels.length pc, .slice ba bm bc, .int .i64 f.k, .int .i64 f.w, .int .i64 f.o, .int .u64 (f.v : Nat), .int .i64 f.c, .int .i64 f.l, .slice ka km kc] 33) := ⟨_, rfl⟩
  have k1 : Keep w W1 := by rw [hW1]; exact (Keep.refl w).alloc _
  have z1 : W1.heap.size = w.heap.size + 1 := by rw [hW1]; simp
  have b1 : Arr W1 w.heap.size 33 [.slice pa cels.length pc, .slice ba bm bc, .int .i64 f.k, .int .i64 f.w, .int .i64 f.o, .int .u64 (f.v : Nat), .int .i64 f.c, .int .i64 f.l, .slice ka km kc] := by rw [hW1]; exact Arr.new w 33 _
  obtain ⟨W2, hW2⟩ : ∃ W2, W2 = W1.alloc (.cells #[.slice sa S.cells.length sc, .bool S.fault] 37) := ⟨_, rfl⟩
  have k2 : Keep W1 W2 := by rw [hW2]; exact (Keep.refl W1).alloc _
  have z2 : W2.heap.size = w.heap.size + 2 := by rw [hW2]; simp [z1]
  have b2 : Arr W2 (w.heap.size + 1) 37 [.slice sa S.cells.length sc, .bool S.fault] := by rw [← z1, hW2]; exact Arr.new W1 37 _
  have A1 := (b1.keep k2)
  have A2 := b2
  have kW := (k1.trans k2)
  have HKW := Hid.mk kW
  clear k1 z1 b1 k2 z2 b2
  obtain ⟨rows, hr1, hr2⟩ := (HH.out.keep kW).kd
  have HCA := Hid.mk (eval_i f t W2 _ rows _ S HH.out.ef hr1 hr2 HH.out.wl HH.out.wo (Sl.keep hS kW) okS)
  simp only [efA] at HCA
  clear h hS okS hr1 hr2
  go_enter Try.func84, Try.ntmps84
  go_upto_region 1 with fail
  rw [← hW1, ← hW2]
  clear hW1 hW2
  obtain ⟨g2, hg2⟩ : ∃ g2, g2 = w.heap.size + 1 := ⟨_, rfl⟩
  obtain ⟨g1, hg1⟩ : ∃ g1, g1 = w.heap.size := ⟨_, rfl⟩
  try simp only [Nat.add_assoc, Nat.reduceAdd]
  rw [← hg2] at A2 ⊢
  rw [← hg1] at A1 ⊢
  have HA2 := Hid.mk A2
  have HA1 := Hid.mk A1
  clear hg2 hg1
  have p0 : W2.cell? ⟨g1, 0, none⟩ = some (.slice pa cels.length pc) := A1.cell 0
  have p1 : W2.cell? ⟨g1, 1, none⟩ = some (.slice ba bm bc) := A1.cell 1
  have p2 : W2.cell? ⟨g1, 2, none⟩ = some (.int .i64 f.k) := A1.cell 2
  have p3 : W2.cell? ⟨g1, 3, none⟩ = some (.int .i64 f.w) := A1.cell 3
  have p4 : W2.cell? ⟨g1, 4, none⟩ = some (.int .i64 f.o) := A1.cell 4
  have p5 : W2.cell? ⟨g1, 5, none⟩ = some (.int .u64 (f.v : Nat)) := A1.cell 5
  have p6 : W2.cell? ⟨g1, 6, none⟩ = some (.int .i64 f.c) := A1.cell 6
  have p7 : W2.cell? ⟨g1, 7, none⟩ = some (.int .i64 f.l) := A1.cell 7
  have p8 : W2.cell? ⟨g1, 8, none⟩ = some (.slice ka km kc) := A1.cell 8
  have s0 : W2.cell? ⟨g2, 0, none⟩ = some (.slice sa S.cells.length sc) := A2.cell 0
  have s1 : W2.cell? ⟨g2, 1, none⟩ = some (.bool S.fault) := A2.cell 1
  clear A1 A2
  generalize hx : (evOne f (evL t S) t.ws S).1 = x at *
  have HX := Hid.mk hx
  clear hx
  generalize (evOne f (evL t S) t.ws S).2 = x2 at *
  go_wp2_with fail
  refine HCA.out.mono ?_
  rintro e y ⟨rfl, ky⟩
  have HQ : Hid (((x : Int) == 1) = decide (x = 1)) := Hid.mk (by rw [Bool.eq_iff_iff]; simp; omega)
  go_wp2_with fail
  go_ret
  exact ⟨by rw [HX.out, ← HQ.out]; rfl, HKW.out.trans ky⟩
set_option maxRecDepth 4000 in
set_option maxHeartbeats 4000000 in
theorem bad_m {P : Nat → Prop} {w : World} {cels : List Cel} {body : SL} {f : EF} {t : EL} {cv bv kv : Value} (h : PRG P w cels body f t cv bv kv) {sa : Option Addr} {sc : Nat} {S : PS} (hS : Vs w (.slice sa S.cells.length sc) S.cells) (okS : StOK (cels.map (·.w)) S) :
    Calls Try.prog 46 #[prA cv bv f kv, .agg #[.slice sa S.cells.length sc, .bool S.fault]] w fun e w' => e = .returned (.bool (decide ((evOne f (evL t S) t.ws S).1 = 1))) ∧ Keep w w' := by
  obtain ⟨pa, pc, rfl, pc1, pc2⟩ := h.cs.form
  obtain ⟨ba, bm, bc, rfl⟩ := h.sb
  obtain ⟨ka, km, kc, rfl⟩ := h.sk
  unfold maxLen at pc2
  have HH := Hid.mk h
  simp only [prA]
  obtain ⟨W1, hW1⟩ : ∃ W1, W1 = w.alloc (.cells #[.slice pa cels.length pc, .slice ba bm bc, .int .i64 f.k, .int .i64 f.w, .int .i64 f.o, .int .u64 (f.v : Nat), .int .i64 f.c, .int .i64 f.l, .slice ka km kc] 33) := ⟨_, rfl⟩
  have k1 : Keep w W1 := by rw [hW1]; exact (Keep.refl w).alloc _
  have z1 : W1.heap.size = w.heap.size + 1 := by rw [hW1]; simp
  have b1 : Arr W1 w.heap.size 33 [.slice pa cels.length pc, .slice ba bm bc, .int .i64 f.k, .int .i64 f.w, .int .i64 f.o, .int .u64 (f.v : Nat), .int .i64 f.c, .int .i64 f.l, .slice ka km kc] := by rw [hW1]; exact Arr.new w 33 _
  obtain ⟨W2, hW2⟩ : ∃ W2, W2 = W1.alloc (.cells #[.slice sa S.cells.length sc, .bool S.fault] 37) := ⟨_, rfl⟩
  have k2 : Keep W1 W2 := by rw [hW2]; exact (Keep.refl W1).alloc _
  have z2 : W2.heap.size = w.heap.size + 2 := by rw [hW2]; simp [z1]
  have b2 : Arr W2 (w.heap.size + 1) 37 [.slice sa S.cells.length sc, .bool S.fault] := by rw [← z1, hW2]; exact Arr.new W1 37 _
  have A1 := (b1.keep k2)
  have A2 := b2
  have kW := (k1.trans k2)
  have HKW := Hid.mk kW
  clear k1 z1 b1 k2 z2 b2
  have HCA := Hid.mk (bad84_m (HH.out.keep kW) (Sl.keep hS kW) okS)
  simp only [prA] at HCA
  clear h hS okS
  go_enter Try.func46, Try.ntmps46
  go_upto_region 1 with fail
  rw [← hW1, ← hW2]
  clear hW1 hW2
  obtain ⟨g2, hg2⟩ : ∃ g2, g2 = w.heap.size + 1 := ⟨_, rfl⟩
  obtain ⟨g1, hg1⟩ : ∃ g1, g1 = w.heap.size := ⟨_, rfl⟩
  try simp only [Nat.add_assoc, Nat.reduceAdd]
  rw [← hg2] at A2 ⊢
  rw [← hg1] at A1 ⊢
  have HA2 := Hid.mk A2
  have HA1 := Hid.mk A1
  clear hg2 hg1
  have p0 : W2.cell? ⟨g1, 0, none⟩ = some (.slice pa cels.length pc) := A1.cell 0
  have p1 : W2.cell? ⟨g1, 1, none⟩ = some (.slice ba bm bc) := A1.cell 1
  have p2 : W2.cell? ⟨g1, 2, none⟩ = some (.int .i64 f.k) := A1.cell 2
  have p3 : W2.cell? ⟨g1, 3, none⟩ = some (.int .i64 f.w) := A1.cell 3
  have p4 : W2.cell? ⟨g1, 4, none⟩ = some (.int .i64 f.o) := A1.cell 4
  have p5 : W2.cell? ⟨g1, 5, none⟩ = some (.int .u64 (f.v : Nat)) := A1.cell 5
  have p6 : W2.cell? ⟨g1, 6, none⟩ = some (.int .i64 f.c) := A1.cell 6
  have p7 : W2.cell? ⟨g1, 7, none⟩ = some (.int .i64 f.l) := A1.cell 7
  have p8 : W2.cell? ⟨g1, 8, none⟩ = some (.slice ka km kc) := A1.cell 8
  have s0 : W2.cell? ⟨g2, 0, none⟩ = some (.slice sa S.cells.length sc) := A2.cell 0
  have s1 : W2.cell? ⟨g2, 1, none⟩ = some (.bool S.fault) := A2.cell 1
  clear A1 A2
  generalize hx : decide ((evOne f (evL t S) t.ws S).1 = 1) = x at *
  have HX := Hid.mk hx
  clear hx
  go_wp2_with fail
  refine HCA.out.mono ?_
  rintro e y ⟨rfl, ky⟩
  go_wp2_with fail
  go_ret
  exact ⟨by rw [HX.out]; rfl, HKW.out.trans ky⟩
set_option maxRecDepth 4000 in
set_option maxHeartbeats 4000000 in
theorem step_m {P : Nat → Prop} {w : World} {cels : List Cel} {body : SL} {f : EF} {t : EL} {cv bv kv : Value} (h : PRG P w cels body f t cv bv kv) {sa : Option Addr} {sc : Nat} {S : PS} (hS : Vs w (.slice sa S.cells.length sc) S.cells) (okS : StOK (cels.map (·.w)) S) :
    Calls Try.prog 48 #[prA cv bv f kv, .agg #[.slice sa S.cells.length sc, .bool S.fault]] w fun e w' => RSt w (exL (cels.map (·.w)) body S) e w' := by
  obtain ⟨pa, pc, rfl, pc1, pc2⟩ := h.cs.form
  obtain ⟨ba, bm, bc, rfl⟩ := h.sb
  obtain ⟨ka, km, kc, rfl⟩ := h.sk
  unfold maxLen at pc2
  have HH := Hid.mk h
  simp only [prA]
  obtain ⟨W1, hW1⟩ : ∃ W1, W1 = w.alloc (.cells #[.slice pa cels.length pc, .slice ba bm bc, .int .i64 f.k, .int .i64 f.w, .int .i64 f.o, .int .u64 (f.v : Nat), .int .i64 f.c, .int .i64 f.l, .slice ka km kc] 33) := ⟨_, rfl⟩
  have k1 : Keep w W1 := by rw [hW1]; exact (Keep.refl w).alloc _
  have z1 : W1.heap.size = w.heap.size + 1 := by rw [hW1]; simp
  have b1 : Arr W1 w.heap.size 33 [.slice pa cels.length pc, .slice ba bm bc, .int .i64 f.k, .int .i64 f.w, .int .i64 f.o, .int .u64 (f.v : Nat), .int .i64 f.c, .int .i64 f.l, .slice ka km kc] := by rw [hW1]; exact Arr.new w 33 _
  obtain ⟨W2, hW2⟩ : ∃ W2, W2 = W1.alloc (.cells #[.slice sa S.cells.length sc, .bool S.fault] 37) := ⟨_, rfl⟩
  have k2 : Keep W1 W2 := by rw [hW2]; exact (Keep.refl W1).alloc _
  have z2 : W2.heap.size = w.heap.size + 2 := by rw [hW2]; simp [z1]
  have b2 : Arr W2 (w.heap.size + 1) 37 [.slice sa S.cells.length sc, .bool S.fault] := by rw [← z1, hW2]; exact Arr.new W1 37 _
  obtain ⟨W3, hW3⟩ : ∃ W3, W3 = W2.alloc (.cells #[.slice none 0 0, .bool false] 37) := ⟨_, rfl⟩
  have k3 : Keep W2 W3 := by rw [hW3]; exact (Keep.refl W2).alloc _
  have z3 : W3.heap.size = w.heap.size + 3 := by rw [hW3]; simp [z2]
  have b3 : Arr W3 (w.heap.size + 2) 37 [.slice none 0 0, .bool false] := by rw [← z2, hW3]; exact Arr.new W2 37 _
  have A1 := ((b1.keep k2).keep k3)
  have A2 := (b2.keep k3)
  have A3 := b3
  have kW := ((k1.trans k2).trans k3)
  have HKW := Hid.mk kW
  clear k1 z1 b1 k2 z2 b2 k3 z3 b3
  obtain ⟨brows, hb1, hb2⟩ := (HH.out.keep kW).bd
  have HCA := Hid.mk (scan_c (f := f) HH.out.ex HH.out.cl (HH.out.keep kW).cs hb1 hb2 ⟨ka, km, kc, rfl⟩ HH.out.wb (Sl.keep hS kW) okS (HH.out.keep kW).pl)
  simp only [prA] at HCA
  clear h hS okS hb1 hb2
  generalize exL (cels.map (·.w)) body S = S' at *
  go_enter Try.func48, Try.ntmps48
  go_upto_region 1 with fail
  rw [← hW1, ← hW2, ← hW3]
  clear hW1 hW2 hW3
  obtain ⟨g3, hg3⟩ : ∃ g3, g3 = w.heap.size + 2 := ⟨_, rfl⟩
  obtain ⟨g2, hg2⟩ : ∃ g2, g2 = w.heap.size + 1 := ⟨_, rfl⟩
  obtain ⟨g1, hg1⟩ : ∃ g1, g1 = w.heap.size := ⟨_, rfl⟩
  try simp only [Nat.add_assoc, Nat.reduceAdd]
  rw [← hg3] at A3 ⊢
  rw [← hg2] at A2 ⊢
  rw [← hg1] at A1 ⊢
  have HA3 := Hid.mk A3
  have HA2 := Hid.mk A2
  have HA1 := Hid.mk A1
  have HG3 := Hid.mk hg3
  clear hg3 hg2 hg1
  have p0 : W3.cell? ⟨g1, 0, none⟩ = some (.slice pa cels.length pc) := A1.cell 0
  have p1 : W3.cell? ⟨g1, 1, none⟩ = some (.slice ba bm bc) := A1.cell 1
  have p2 : W3.cell? ⟨g1, 2, none⟩ = some (.int .i64 f.k) := A1.cell 2
  have p3 : W3.cell? ⟨g1, 3, none⟩ = some (.int .i64 f.w) := A1.cell 3
  have p4 : W3.cell? ⟨g1, 4, none⟩ = some (.int .i64 f.o) := A1.cell 4
  have p5 : W3.cell? ⟨g1, 5, none⟩ = some (.int .u64 (f.v : Nat)) := A1.cell 5
  have p6 : W3.cell? ⟨g1, 6, none⟩ = some (.int .i64 f.c) := A1.cell 6
  have p7 : W3.cell? ⟨g1, 7, none⟩ = some (.int .i64 f.l) := A1.cell 7
  have p8 : W3.cell? ⟨g1, 8, none⟩ = some (.slice ka km kc) := A1.cell 8
  have s0 : W3.cell? ⟨g2, 0, none⟩ = some (.slice sa S.cells.length sc) := A2.cell 0
  have s1 : W3.cell? ⟨g2, 1, none⟩ = some (.bool S.fault) := A2.cell 1
  clear A1 A2
  go_wp2_with fail
  refine HCA.out.mono ?_
  rintro e y ⟨⟨gC, ca, cap, sp, rfl, cl, gb, gl⟩, ky⟩
  have A3y := A3.keep ky
  have r2 : y.cell? ⟨g3, 0, none⟩ = some (.slice none 0 0) := A3y.cell 0
  have r3 : y.cell? ⟨g3, 1, none⟩ = some (.bool false) := A3y.cell 1
  have r4 := A3y.frozen 0
  have r5 := A3y.frozen 1
  have HL3 : Hid (g3 < W3.heap.size) := Hid.mk A3.lt
  have HCL := Hid.mk cl
  have HGB := Hid.mk gb
  have HKY := Hid.mk ky
  have HA3Y := Hid.mk A3y
  clear A3 A3y cl gb gl ky
  go_wp2_with fail
  have A9 := (HA3Y.out.set 0 (.slice ca S'.cells.length cap)).set 1 (.bool S'.fault)
  have q0 := A9.cell 0
  have q1 := A9.cell 1
  simp only [List.set_cons_zero, List.set_cons_succ, List.getElem?_cons_zero, List.getElem?_cons_succ] at q0 q1
  have hge : w.heap.size ≤ g3 := by have := HG3.out; omega
  refine bodyPost_ret (v := .agg #[.slice ca S'.cells.length cap, .bool S'.fault]) (by simp [results, Try.results48, go_sem, q0, q1]) rfl ?_
  have f9 : Fr (fun q => q = g3) y ((y.setCell ⟨g3, 0, none⟩ (.slice ca S'.cells.length cap)).setCell ⟨g3, 1, none⟩ (.bool S'.fault)) := Fr.setCell (P := fun q => q = g3) (p := ⟨g3, 1, none⟩) (Fr.setCell (P := fun q => q = g3) (p := ⟨g3, 0, none⟩) (Fr.refl _ y) (Or.inl rfl) _) (Or.inl rfl) _
  exact ⟨ca, cap, rfl, (HCL.out.fr f9 (fun e => by have := HL3.out; have := HGB.out; omega)).vs, ((HKW.out.trans HKY.out).setCell (p := ⟨g3, 0, none⟩) hge _).setCell (p := ⟨g3, 1, none⟩) hge _⟩
set_option maxRecDepth 4000 in
set_option maxHeartbeats 4000000 in
theorem init_m {P : Nat → Prop} {w : World} {cels : List Cel} {body : SL} {f : EF} {t : EL} {cv bv kv : Value} (h : PRG P w cels body f t cv bv kv) {sa : Option Addr} {sc : Nat} {S : PS} (hS : Vs w (.slice sa S.cells.length sc) S.cells) (okS : StOK (cels.map (·.w)) S) :
    Calls Try.prog 43 #[prA cv bv f kv, .agg #[.slice sa S.cells.length sc, .bool S.fault]] w fun e w' => e = .returned (.bool (sameF cels S ⟨inis cels, false⟩)) ∧ Keep w w' := by
  obtain ⟨pa, pc, rfl, pc1, pc2⟩ := h.cs.form
  obtain ⟨ba, bm, bc, rfl⟩ := h.sb
  obtain ⟨ka, km, kc, rfl⟩ := h.sk
  unfold maxLen at pc2
  have HH := Hid.mk h
  simp only [prA]
  obtain ⟨W1, hW1⟩ : ∃ W1, W1 = w.alloc (.cells #[.slice pa cels.length pc, .slice ba bm bc, .int .i64 f.k, .int .i64 f.w, .int .i64 f.o, .int .u64 (f.v : Nat), .int .i64 f.c, .int .i64 f.l, .slice ka km kc] 33) := ⟨_, rfl⟩
  have k1 : Keep w W1 := by rw [hW1]; exact (Keep.refl w).alloc _
  have z1 : W1.heap.size = w.heap.size + 1 := by rw [hW1]; simp
  have b1 : Arr W1 w.heap.size 33 [.slice pa cels.length pc, .slice ba bm bc, .int .i64 f.k, .int .i64 f.w, .int .i64 f.o, .int .u64 (f.v : Nat), .int .i64 f.c, .int .i64 f.l, .slice ka km kc] := by rw [hW1]; exact Arr.new w 33 _
  obtain ⟨W2, hW2⟩ : ∃ W2, W2 = W1.alloc (.cells #[.slice sa S.cells.length sc, .bool S.fault] 37) := ⟨_, rfl⟩
  have k2 : Keep W1 W2 := by rw [hW2]; exact (Keep.refl W1).alloc _
  have z2 : W2.heap.size = w.heap.size + 2 := by rw [hW2]; simp [z1]
  have b2 : Arr W2 (w.heap.size + 1) 37 [.slice sa S.cells.length sc, .bool S.fault] := by rw [← z1, hW2]; exact Arr.new W1 37 _
  have A1 := (b1.keep k2)
  have A2 := b2
  have kW := (k1.trans k2)
  have HKW := Hid.mk kW
  clear k1 z1 b1 k2 z2 b2
  have HS := Hid.mk hS
  have HOK := Hid.mk okS
  clear h hS okS
  go_enter Try.func43, Try.ntmps43
  go_upto_region 1 with fail
  rw [← hW1, ← hW2]
  clear hW1 hW2
  obtain ⟨g2, hg2⟩ : ∃ g2, g2 = w.heap.size + 1 := ⟨_, rfl⟩
  obtain ⟨g1, hg1⟩ : ∃ g1, g1 = w.heap.size := ⟨_, rfl⟩
  try simp only [Nat.add_assoc, Nat.reduceAdd]
  rw [← hg2] at A2 ⊢
  rw [← hg1] at A1 ⊢
  have HA2 := Hid.mk A2
  have HA1 := Hid.mk A1
  clear hg2 hg1
  have kd := (Keep.refl W2).drew
  refine mi_c g1 g2 (.slice pa cels.length pc) (.slice ba bm bc) (.int .i64 f.k) (.int .i64 f.w) (.int .i64 f.o) (.int .u64 (f.v : Nat)) (.int .i64 f.c) (.int .i64 f.l) (.slice ka km kc) (.slice sa S.cells.length sc) (.bool S.fault) (sameF cels S ⟨inis cels, false⟩) rfl rfl rfl ((A1.keep kd).cell 0) ((A1.keep kd).cell 1) ((A1.keep kd).cell 2) ((A1.keep kd).cell 3) ((A1.keep kd).cell 4) ((A1.keep kd).cell 5) ((A1.keep kd).cell 6) ((A1.keep kd).cell 7) ((A1.keep kd).cell 8) ((A2.keep kd).cell 0) ((A2.keep kd).cell 1) (fun k u Z => match k with
    | 0 => ∃ a c, u = .agg #[.slice a (inis cels).length c, .bool false] ∧ Vs Z (.slice a (inis cels).length c) (inis cels)
    | _ => u = .bool (sameF cels S ⟨inis cels, false⟩)) ?_ ?_ ?_ ?_ ?_
  · intro k u Z Z' kz hu
    match k, hu with
    | 0, ⟨a, c, e, hv⟩ => exact ⟨a, c, e, Sl.keep hv kz⟩
    | k + 1, hu => exact hu
  · intro Z kz
    have kk := (HKW.out.trans kd).trans kz
    have h9 := iniM_c (f := f) HH.out.cl (HH.out.keep kk).cs ⟨ba, bm, bc, rfl⟩ ⟨ka, km, kc, rfl⟩
    simp only [prA] at h9
    refine h9.mono ?_
    rintro e y ⟨hn, ky, -⟩
    obtain ⟨a, c, rfl, hv, -⟩ := hn.rst ky
    exact ⟨_, rfl, ⟨a, c, rfl, hv⟩, ky⟩
  · rintro Z u kz ⟨a, c, rfl, hv⟩
    have kk := (HKW.out.trans kd).trans kz
    have h9 := sameS_c (f := f) (S := S) (T := ⟨inis cels, false⟩) HH.out.cl (HH.out.keep kk).cs ⟨ba, bm, bc, rfl⟩ ⟨ka, km, kc, rfl⟩ (Sl.keep HS.out kk) hv (stok_len HOK.out) (by simp [inis])
    simp only [prA] at h9
    refine h9.mono ?_
    rintro e y ⟨rfl, ky⟩
    exact ⟨_, rfl, rfl, ky⟩
  · intro u Z hu
    exact hu
  · intro vs w' hv hex kz
    simp only [Lmx, miT, List.filterMap_cons, List.filterMap_nil, ment, Option.map_some, Option.map_none, mval, lay, List.foldl_cons, List.foldl_nil]
    simp only [put_litx, List.set_cons_succ, List.set_cons_zero]
    go_wp2_with fail
    go_ret
    exact ⟨rfl, (HKW.out.trans kd).trans kz⟩
set_option maxRecDepth 4000 in
set_option maxHeartbeats 4000000 in
theorem trans_m {P : Nat → Prop} {w : World} {cels : List Cel} {body : SL} {f : EF} {t : EL} {cv bv kv : Value} (h : PRG P w cels body f t cv bv kv) {sa : Option Addr} {sc : Nat} {S : PS} (hS : Vs w (.slice sa S.cells.length sc) S.cells) (okS : StOK (cels.map (·.w)) S) {ta : Option Addr} {tc : Nat} {T : PS} (hT : Vs w (.slice ta T.cells.length tc) T.cells) (okT : StOK (cels.map (·.w)) T) :
    Calls Try.prog 45 #[prA cv bv f kv, .agg #[.slice sa S.cells.length sc, .bool S.fault], .agg #[.slice ta T.cells.length tc, .bool T.fault]] w fun e w' => e = .returned (.bool (allC cels (legB S) cels.length && sameF cels (exL (cels.map (·.w)) body S) T)) ∧ Keep w w' := by
  obtain ⟨pa, pc, rfl, pc1, pc2⟩ := h.cs.form
  obtain ⟨ba, bm, bc, rfl⟩ := h.sb
  obtain ⟨ka, km, kc, rfl⟩ := h.sk
  unfold maxLen at pc2
  have HH := Hid.mk h
  simp only [prA]
  obtain ⟨W1, hW1⟩ : ∃ W1, W1 = w.alloc (.cells #[.slice pa cels.length pc, .slice ba bm bc, .int .i64 f.k, .int .i64 f.w, .int .i64 f.o, .int .u64 (f.v : Nat), .int .i64 f.c, .int .i64 f.l, .slice ka km kc] 33) := ⟨_, rfl⟩
  have k1 : Keep w W1 := by rw [hW1]; exact (Keep.refl w).alloc _
  have z1 : W1.heap.size = w.heap.size + 1 := by rw [hW1]; simp
  have b1 : Arr W1 w.heap.size 33 [.slice pa cels.length pc, .slice ba bm bc, .int .i64 f.k, .int .i64 f.w, .int .i64 f.o, .int .u64 (f.v : Nat), .int .i64 f.c, .int .i64 f.l, .slice ka km kc] := by rw [hW1]; exact Arr.new w 33 _
  obtain ⟨W2, hW2⟩ : ∃ W2, W2 = W1.alloc (.cells #[.slice sa S.cells.length sc, .bool S.fault] 37) := ⟨_, rfl⟩
  have k2 : Keep W1 W2 := by rw [hW2]; exact (Keep.refl W1).alloc _
  have z2 : W2.heap.size = w.heap.size + 2 := by rw [hW2]; simp [z1]
  have b2 : Arr W2 (w.heap.size + 1) 37 [.slice sa S.cells.length sc, .bool S.fault] := by rw [← z1, hW2]; exact Arr.new W1 37 _
  obtain ⟨W3, hW3⟩ : ∃ W3, W3 = W2.alloc (.cells #[.slice ta T.cells.length tc, .bool T.fault] 37) := ⟨_, rfl⟩
  have k3 : Keep W2 W3 := by rw [hW3]; exact (Keep.refl W2).alloc _
  have z3 : W3.heap.size = w.heap.size + 3 := by rw [hW3]; simp [z2]
  have b3 : Arr W3 (w.heap.size + 2) 37 [.slice ta T.cells.length tc, .bool T.fault] := by rw [← z2, hW3]; exact Arr.new W2 37 _
  have A1 := ((b1.keep k2).keep k3)
  have A2 := (b2.keep k3)
  have A3 := b3
  have kW := ((k1.trans k2).trans k3)
  have HKW := Hid.mk kW
  clear k1 z1 b1 k2 z2 b2 k3 z3 b3
  have HS := Hid.mk hS
  have HOK := Hid.mk okS
  have HT := Hid.mk hT
  have HOT := Hid.mk okT
  have hWS : WsOK (cels.map (·.w)) := fun a ha => by
    obtain ⟨c, hc, rfl⟩ := List.mem_map.1 ha
    exact h.cw c hc
  have HXL := Hid.mk (stok_len (exL_ok hWS h.wb okS))
  clear h hS okS hT okT hWS
  generalize hleg : allC cels (legB S) cels.length = lg
  have HLEG := Hid.mk hleg
  clear hleg
  go_enter Try.func45, Try.ntmps45
  go_upto_region 1 with fail
  rw [← hW1, ← hW2, ← hW3]
  clear hW1 hW2 hW3
  obtain ⟨g3, hg3⟩ : ∃ g3, g3 = w.heap.size + 2 := ⟨_, rfl⟩
  obtain ⟨g2, hg2⟩ : ∃ g2, g2 = w.heap.size + 1 := ⟨_, rfl⟩
  obtain ⟨g1, hg1⟩ : ∃ g1, g1 = w.heap.size := ⟨_, rfl⟩
  try simp only [Nat.add_assoc, Nat.reduceAdd]
  rw [← hg3] at A3 ⊢
  rw [← hg2] at A2 ⊢
  rw [← hg1] at A1 ⊢
  have HA3 := Hid.mk A3
  have HA2 := Hid.mk A2
  have HA1 := Hid.mk A1
  clear hg3 hg2 hg1
  have kd := (Keep.refl W3).drew
  cases lg with
  | false =>
    refine mf_c g1 g2 g3 (.slice pa cels.length pc) (.slice ba bm bc) (.int .i64 f.k) (.int .i64 f.w) (.int .i64 f.o) (.int .u64 (f.v : Nat)) (.int .i64 f.c) (.int .i64 f.l) (.slice ka km kc) (.slice sa S.cells.length sc) (.bool S.fault) (.slice ta T.cells.length tc) (.bool T.fault) false rfl rfl rfl ((A1.keep kd).cell 0) ((A1.keep kd).cell 1) ((A1.keep kd).cell 2) ((A1.keep kd).cell 3) ((A1.keep kd).cell 4) ((A1.keep kd).cell 5) ((A1.keep kd).cell 6) ((A1.keep kd).cell 7) ((A1.keep kd).cell 8) ((A2.keep kd).cell 0) ((A2.keep kd).cell 1) (fun k u Z => u = .bool false) ?_ ?_ ?_ ?_
    · intro k u Z Z' kz hu
      exact hu
    · intro Z kz
      have kk := (HKW.out.trans kd).trans kz
      have h9 := legM_c (f := f) HH.out.cl HH.out.cw (HH.out.keep kk).cs ⟨ba, bm, bc, rfl⟩ ⟨ka, km, kc, rfl⟩ (Sl.keep HS.out kk) HOK.out
      rw [HLEG.out] at h9
      simp only [prA] at h9
      refine h9.mono ?_
      rintro e y ⟨rfl, ky⟩
      exact ⟨_, rfl, rfl, ky⟩
    · intro u Z hu
      exact hu
    · intro vs w' hv hex kz
      simp only [Lmx, mfT, List.filterMap_cons, List.filterMap_nil, ment, Option.map_some, Option.map_none, mval, lay, List.foldl_cons, List.foldl_nil]
      simp only [put_litx, List.set_cons_succ, List.set_cons_zero]
      go_wp2_with fail
      go_ret
      exact ⟨rfl, (HKW.out.trans kd).trans kz⟩
  | true =>
    refine mt_c g1 g2 g3 (.slice pa cels.length pc) (.slice ba bm bc) (.int .i64 f.k) (.int .i64 f.w) (.int .i64 f.o) (.int .u64 (f.v : Nat)) (.int .i64 f.c) (.int .i64 f.l) (.slice ka km kc) (.slice sa S.cells.length sc) (.bool S.fault) (.slice ta T.cells.length tc) (.bool T.fault) (sameF cels (exL (cels.map (·.w)) body S) T) rfl rfl rfl rfl ((A1.keep kd).cell 0) ((A1.keep kd).cell 1) ((A1.keep kd).cell 2) ((A1.keep kd).cell 3) ((A1.keep kd).cell 4) ((A1.keep kd).cell 5) ((A1.keep kd).cell 6) ((A1.keep kd).cell 7) ((A1.keep kd).cell 8) ((A2.keep kd).cell 0) ((A2.keep kd).cell 1) ((A3.keep kd).cell 0) ((A3.keep kd).cell 1) (fun k u Z => match k with
      | 0 => u = .bool true
      | 1 => ∃ a c, u = .agg #[.slice a (exL (cels.map (·.w)) body S).cells.length c, .bool (exL (cels.map (·.w)) body S).fault] ∧ Vs Z (.slice a (exL (cels.map (·.w)) body S).cells.length c) (exL (cels.map (·.w)) body S).cells
      | _ => u = .bool (sameF cels (exL (cels.map (·.w)) body S) T)) ?_ ?_ ?_ ?_ ?_ ?_ ?_
    · intro k u Z Z' kz hu
      match k, hu with
      | 0, hu => exact hu
      | 1, ⟨a, c, e, hv⟩ => exact ⟨a, c, e, Sl.keep hv kz⟩
      | k + 2, hu => exact hu
    · intro Z kz
      have kk := (HKW.out.trans kd).trans kz
      have h9 := legM_c (f := f) HH.out.cl HH.out.cw (HH.out.keep kk).cs ⟨ba, bm, bc, rfl⟩ ⟨ka, km, kc, rfl⟩ (Sl.keep HS.out kk) HOK.out
      rw [HLEG.out] at h9
      simp only [prA] at h9
      refine h9.mono ?_
      rintro e y ⟨rfl, ky⟩
      exact ⟨_, rfl, rfl, ky⟩
    · intro u Z hu
      exact hu
    · intro Z kz
      have kk := (HKW.out.trans kd).trans kz
      obtain ⟨brows, hb1, hb2⟩ := (HH.out.keep kk).bd
      have h9 := scan_c (f := f) HH.out.ex HH.out.cl (HH.out.keep kk).cs hb1 hb2 ⟨ka, km, kc, rfl⟩ HH.out.wb (Sl.keep HS.out kk) HOK.out (HH.out.keep kk).pl
      simp only [prA] at h9
      refine h9.mono ?_
      rintro e y ⟨hn, ky⟩
      obtain ⟨a, c, rfl, hv, -⟩ := hn.rst ky
      exact ⟨_, rfl, ⟨a, c, rfl, hv⟩, ky⟩
    · rintro Z u kz ⟨a, c, rfl, hv⟩
      have kk := (HKW.out.trans kd).trans kz
      have h9 := sameS_c (f := f) (S := exL (cels.map (·.w)) body S) (T := T) HH.out.cl (HH.out.keep kk).cs ⟨ba, bm, bc, rfl⟩ ⟨ka, km, kc, rfl⟩ hv (Sl.keep HT.out kk) HXL.out (stok_len HOT.out)
      simp only [prA] at h9
      refine h9.mono ?_
      rintro e y ⟨rfl, ky⟩
      exact ⟨_, rfl, rfl, ky⟩
    · intro u Z hu
      exact hu
    · intro vs w' hv hex kz
      simp only [Lmx, mtT, List.filterMap_cons, List.filterMap_nil, ment, Option.map_some, Option.map_none, mval, lay, List.foldl_cons, List.foldl_nil]
      simp only [put_litx, List.set_cons_succ, List.set_cons_zero]
      go_wp2_with fail
      go_ret
      exact ⟨rfl, (HKW.out.trans kd).trans kz⟩
end Go.Proofs.Qxb6500772a
