/- blastlaw: the builder in memory. -/
import Derived.Test.Qxb6500772aHg
import Derived.Test.Qxb6500772aTk
namespace Go.Proofs.Qxb6500772a
open Go Go.RowKit Go.Qm
set_option linter.unusedVariables false
set_option linter.unusedSimpArgs false
/-- An expression on the stack: its fields, its kids' slice, and what lies there. -/
structure NE where
  f : EF
  kv : Value
  t : EL
  kr : List (List Value)
def neC (x : NE) : List Value := efC x.f x.kv
theorem neC_len (x : NE) : (neC x).length = 7 := rfl
def NEok (P : Nat → Prop) (w : World) (x : NE) : Prop := EFr x.f ∧ Rows P w x.kv 7 x.kr ∧ ELW P w x.t x.kr
/-- A statement on the stack. -/
structure NS where
  f : SF
  ev : Value
  tv : Value
  lv : Value
  ex : EL
  th : SL
  el : SL
  er : List (List Value)
  tr : List (List Value)
  lr : List (List Value)
def nsC (x : NS) : List Value := sfC x.f x.ev x.tv x.lv
theorem nsC_len (x : NS) : (nsC x).length = 8 := rfl
def NSok (P : Nat → Prop) (w : World) (x : NS) : Prop := SFr x.f ∧ Rows P w x.ev 7 x.er ∧ ELW P w x.ex x.er ∧ Rows P w x.tv 8 x.tr ∧ SLW P w x.th x.tr ∧ Rows P w x.lv 8 x.lr ∧ SLW P w x.el x.lr
def nsz (x : NS) : Nat := 1 + x.th.size + x.el.size
/-- A patch. -/
def paC (p : Int × Nat) : List Value := [.int .i64 p.1, .int .u64 ((p.2 : Nat) : Int)]
theorem paC_len (p : Int × Nat) : (paC p).length = 2 := rfl
theorem celC_len (c : Cel) : (celC c).length = 5 := rfl
theorem inf31 : (Try.prog.info? 31).map (fun i => (i.zero, i.size, i.bytes)) = some (some (.agg (efC ⟨0, 0, 0, 0, 0, 0⟩ (.slice none 0 0)).toArray), 7, 72) := by kernel_rfl
theorem inf109 : (Try.prog.info? 109).map (fun i => (i.zero, i.size, i.bytes)) = some (some (.agg (sfC ⟨0, 0, 0, 0, 0⟩ (.slice none 0 0) (.slice none 0 0) (.slice none 0 0)).toArray), 8, 112) := by kernel_rfl
theorem inf70 : (Try.prog.info? 70).map (fun i => (i.zero, i.size, i.bytes)) = some (some (.agg (celC ⟨0, false, 0, 0, 0⟩).toArray), 5, 40) := by kernel_rfl
theorem inf129 : (Try.prog.info? 129).map (fun i => (i.zero, i.size, i.bytes)) = some (some (.agg (paC (0, 0)).toArray), 2, 16) := by kernel_rfl
theorem NEok.step {P : Nat → Prop} {w w' : World} {x : NE} (h : NEok P w x) (k : KP P w w') : NEok P w' x := ⟨h.1, h.2.1.step k, h.2.2.step k⟩
theorem NEok.weak {P Q : Nat → Prop} (hq : ∀ q, P q → Q q) {w : World} {x : NE} (h : NEok P w x) : NEok Q w x := ⟨h.1, h.2.1.weak hq, ELW.weak hq h.2.2⟩
theorem NSok.step {P : Nat → Prop} {w w' : World} {x : NS} (h : NSok P w x) (k : KP P w w') : NSok P w' x := ⟨h.1, h.2.1.step k, h.2.2.1.step k, h.2.2.2.1.step k, h.2.2.2.2.1.step k, h.2.2.2.2.2.1.step k, h.2.2.2.2.2.2.step k⟩
theorem NSok.weak {P Q : Nat → Prop} (hq : ∀ q, P q → Q q) {w : World} {x : NS} (h : NSok P w x) : NSok Q w x := ⟨h.1, h.2.1.weak hq, ELW.weak hq h.2.2.1, h.2.2.2.1.weak hq, SLW.weak hq h.2.2.2.2.1, h.2.2.2.2.2.1.weak hq, SLW.weak hq h.2.2.2.2.2.2⟩
/-- A list of expressions of the stack, as a tree. -/
def mkE : List NE → EL
  | [] => .nil
  | x :: l => .cons x.f x.t (mkE l)
def mkS : List NS → SL
  | [] => .nil
  | x :: l => .cons x.f x.ex x.th x.el (mkS l)
theorem mkE_ok {P : Nat → Prop} {w : World} : ∀ {l : List NE}, (∀ x ∈ l, NEok P w x) → ELW P w (mkE l) (l.map neC)
  | [], _ => rfl
  | x :: l, h => by
    have hx := h x (by simp)
    exact ⟨x.kv, x.kr, _, rfl, hx.1, hx.2.1, hx.2.2, mkE_ok (fun y hy => h y (by simp [hy]))⟩
theorem mkS_ok {P : Nat → Prop} {w : World} : ∀ {l : List NS}, (∀ x ∈ l, NSok P w x) → SLW P w (mkS l) (l.map nsC)
  | [], _ => rfl
  | x :: l, h => by
    have hx := h x (by simp)
    exact ⟨x.ev, x.er, x.tv, x.tr, x.lv, x.lr, _, rfl, hx.1, hx.2.1, hx.2.2.1, hx.2.2.2.1, hx.2.2.2.2.1, hx.2.2.2.2.2.1, hx.2.2.2.2.2.2, mkS_ok (fun y hy => h y (by simp [hy]))⟩
theorem mkS_size : ∀ l : List NS, (mkS l).size = (l.map nsz).sum
  | [] => rfl
  | x :: l => by simp only [mkS, SL.size, List.map_cons, List.sum_cons, nsz, mkS_size l]
/-- A slice of structs that owns its block, read as rows. -/
theorem OwnS.rows {α : Type} {f : α → List Value} {sz : Nat} {e : TypeId} {B : Nat} {w : World} {v : Value} {l : List α} (h : OwnS f sz e B w v l) (hf : ∀ x, (f x).length = sz) {P : Nat → Prop} (hP : ∀ q, v.ownBlock = some q → P q) : Rows P w v sz (l.map f) := by
  rcases h.form with ⟨rfl, rfl⟩ | ⟨g, cap, cur, rfl, hB, hA, h1, h2, h3, h4⟩
  · exact ⟨none, 0, rfl, Nat.le_refl _, by simp [maxLen], fun i hi => by simp at hi⟩
  · refine ⟨_, cap, by rw [List.length_map], by rw [List.length_map]; exact h1, h2, fun i hi => ⟨g, 0, rfl, hP g rfl, hA.lt, fun j hj => ?_⟩⟩
    have hi2 : i < l.length := by simpa using hi
    rw [Nat.zero_add, hA.cell, flat_take_get hf h4 i j hi2 hj]
    simp
/-- Two slices of different types lie in different blocks. -/
theorem OwnS.ne {α β : Type} {f : α → List Value} {g : β → List Value} {sz sz' : Nat} {e e' : TypeId} {B B' : Nat} {w : World} {v v' : Value} {l : List α} {l' : List β} (h : OwnS f sz e B w v l) (h' : OwnS g sz' e' B' w v' l') (hne : e ≠ e') : ∀ q, v.ownBlock = some q → v'.ownBlock ≠ some q := by
  intro q hq hq'
  rcases h.form with ⟨rfl, rfl⟩ | ⟨g1, cap, cur, rfl, hB, hA, -⟩
  · simp [Value.ownBlock] at hq
  · rcases h'.form with ⟨rfl, rfl⟩ | ⟨g2, cap2, cur2, rfl, hB2, hA2, -⟩
    · simp [Value.ownBlock] at hq'
    · have e1 : g1 = q := by simpa [Value.ownBlock] using hq
      have e2 : g2 = q := by simpa [Value.ownBlock] using hq'
      subst e1 e2
      have := Option.some.inj ((show w.heap[g2]? = _ from hA).symm.trans hA2)
      injection this with a b
      exact hne b
theorem OwnS.neA {α : Type} {f : α → List Value} {sz : Nat} {e t : TypeId} {B : Nat} {w : World} {v : Value} {l : List α} (h : OwnS f sz e B w v l) {g : Nat} {cs : List Value} (ha : Arr w g t cs) (hne : e ≠ t) : v.ownBlock ≠ some g := by
  intro hq
  rcases h.form with ⟨rfl, rfl⟩ | ⟨g1, cap, cur, rfl, hB, hA, -⟩
  · simp [Value.ownBlock] at hq
  · have e1 : g1 = g := by simpa [Value.ownBlock] using hq
    subst e1
    have := Option.some.inj ((show w.heap[g1]? = _ from hA).symm.trans ha)
    injection this with a b
    exact hne b
/-- The builder's cells. -/
def bbL (cv xv sv : Value) (bad : NE) (pv nv : Value) (cf : Bool) (nf : Int) : List Value := [cv, xv, sv, .int .i64 bad.f.k, .int .i64 bad.f.w, .int .i64 bad.f.o, .int .u64 ((bad.f.v : Nat) : Int), .int .i64 bad.f.c, .int .i64 bad.f.l, bad.kv, pv, nv, .bool cf, .int .i64 nf]
structure BB (B : Nat) (P : Nat → Prop) (w : World) (gb : Nat) (cv xv sv pv nv : Value) (cels : List Cel) (es : List NE) (ss : List NS) (bad : NE) (cu nx : List (Int × Nat)) (cf : Bool) (nf : Int) : Prop where
  ar : Arr w gb 78 (bbL cv xv sv bad pv nv cf nf)
  lo : B ≤ gb
  oc : OwnS celC 5 70 B w cv cels
  oe : OwnS neC 7 31 B w xv es
  os : OwnS nsC 8 109 B w sv ss
  ou : OwnS paC 2 129 B w pv cu
  on : OwnS paC 2 129 B w nv nx
  hc : ∀ c ∈ cels, CelR c
  he : ∀ x ∈ es, NEok P w x
  hs : ∀ x ∈ ss, NSok P w x
  hb : NEok P w bad
  hu : ∀ p ∈ cu, I64 p.1 ∧ p.2 < 2 ^ 64
  hn : ∀ p ∈ nx, I64 p.1 ∧ p.2 < 2 ^ 64
  hf : I64 nf
  sp : ∀ q, P q → B ≤ q ∧ q < w.heap.size ∧ q ≠ gb ∧ cv.ownBlock ≠ some q ∧ xv.ownBlock ≠ some q ∧ sv.ownBlock ≠ some q ∧ pv.ownBlock ≠ some q ∧ nv.ownBlock ≠ some q
  un : ∀ q, pv.ownBlock = some q → nv.ownBlock ≠ some q
/-- The blocks of a builder. -/
def fpB (gb : Nat) (cv xv sv pv nv : Value) (q : Nat) : Prop := q = gb ∨ cv.ownBlock = some q ∨ xv.ownBlock = some q ∨ sv.ownBlock = some q ∨ pv.ownBlock = some q ∨ nv.ownBlock = some q
theorem BB.keep {B : Nat} {P : Nat → Prop} {w w' : World} {gb : Nat} {cv xv sv pv nv : Value} {cels : List Cel} {es : List NE} {ss : List NS} {bad : NE} {cu nx : List (Int × Nat)} {cf : Bool} {nf : Int} (h : BB B P w gb cv xv sv pv nv cels es ss bad cu nx cf nf) (k : Keep w w') : BB B P w' gb cv xv sv pv nv cels es ss bad cu nx cf nf :=
  ⟨h.ar.keep k, h.lo, h.oc.keep k, h.oe.keep k, h.os.keep k, h.ou.keep k, h.on.keep k, h.hc, fun x hx => (h.he x hx).step (KP.of k), fun x hx => (h.hs x hx).step (KP.of k), h.hb.step (KP.of k), h.hu, h.hn, h.hf, fun q hq => ⟨(h.sp q hq).1, Nat.lt_of_lt_of_le (h.sp q hq).2.1 k.size, (h.sp q hq).2.2⟩, h.un⟩
end Go.Proofs.Qxb6500772a
