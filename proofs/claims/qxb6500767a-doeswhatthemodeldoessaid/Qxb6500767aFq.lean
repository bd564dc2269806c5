/- unionvfslaw: what play answers; the world of the law. -/
import Derived.Test.Qxb6500767aPf
import Derived.Test.Qxb6500767aFl
import Derived.Test.Qxb6500767aFi
namespace Go.Qm
open Go Go.RowKit
theorem results_cell_row1 {P : Program} {fn : Func} {p : Tmp} {ty : TypeId} (h : fn.results = #[.cell p ty]) (tmps : Array Value) (w : World) (g : Nat) (t : TypeId) (cs : Array Value) (fr : Nat × Nat) (d : TypeDesc)
    (hp : tmps.getD p undef = .pointer (some ⟨g, 0, none⟩)) (hg : w.heap[g]? = some (.cells cs t fr))
    (hu : P.underlying ty = some d) (hd : (match d with | .struct _ | .array _ _ => true | _ => false) = true) (hi : (P.info? ty).map (·.size) = some cs.size) :
    (results fn tmps).run P w = .ok (.agg cs) w := by
  have hp' : tmps[p]?.getD undef = .pointer (some ⟨g, 0, none⟩) := by simpa using hp
  simp [results, h, hp', asAddr, run_loadVar_row w g t ty cs fr d hg hu hd hi]
end Go.Qm
namespace Go.Proofs.Qxb6500767a
open Go.RowKit Go.Qm
set_option linter.unusedVariables false
set_option linter.unusedSimpArgs false
attribute [local go_sem ↓] Go.wp_at_zero Go.wp_at_succ
theorem s34 : (Try.prog.info? 34).map (·.size) = some 9 := by kernel_rfl
structure OpV where
  kind : Int
  h : Int
  flags : Int
  mode : Int
  n : Int
  off : Int
  wh : Int
  path : List UInt8
  path2 : List UInt8
  data : List UInt8
def opC (o : OpV) : List Value := [.int .i64 o.kind, .int .i64 o.h, .int .i64 o.flags, .int .i64 o.mode, .int .i64 o.n, .int .i64 o.off, .int .i64 o.wh, str o.path, str o.path2, str o.data]
structure AnsV where
  er : Int
  n : Int
  data : List UInt8
  st : Sta
  page : List Dir
def ansC (a : AnsV) (v : Value) : List Value := [.int .i64 a.er, .int .i64 a.n, str a.data, .int .i64 (a.st.ino : Nat), .int .i64 (a.st.kind : Nat), .int .i64 a.st.mode, .int .i64 (a.st.links : Nat), .int .i64 (a.st.size : Nat), v]
def zeroC : List Value := [.int .i64 0, .int .i64 0, str [], .int .i64 0, .int .i64 0, .int .i64 0, .int .i64 0, .int .i64 0, .slice none 0 0]
structure Stt where
  u : Nat
  hs : List Hd
  T : List Nd
structure WW (B : Nat) (fp : Nat → Prop) (w : World) (gw gf gt : Nat) (s : Stt) : Prop where
  v : VW B fp w gf gt s.u s.hs s.T
  arr : Arr w gw 43 [.pointer (some ⟨gt, 0, none⟩), .pointer (some ⟨gf, 0, none⟩)]
  nfp : ¬ fpV fp gf gw
theorem VW.flt {B gf gt u : Nat} {fp : Nat → Prop} {w : World} {hs : List Hd} {T : List Nd} (h : VW B fp w gf gt u hs T) {q : Nat} (hq : fpV fp gf q) : q < w.heap.size := by
  rcases hq with a | a
  · exact (h.tree.own a).2
  · rw [a]; exact h.fs.arr.lt
theorem WW.keep {B gw gf gt : Nat} {fp : Nat → Prop} {w w' : World} {s : Stt} (h : WW B fp w gw gf gt s) (k : Keep w w') : WW B fp w' gw gf gt s := ⟨h.v.keep k, h.arr.keep k, h.nfp⟩
theorem WW.stp {B gw gf gt : Nat} {fp fp' : Nat → Prop} {w w' : World} {s : Stt} (h : WW B fp w gw gf gt s) {u' : Nat} {hs' : List Hd} {T' : List Nd} (v : VW B fp' w' gf gt u' hs' T') (st : Stp (fpV fp gf) (fpV fp' gf) w w') : WW B fp' w' gw gf gt ⟨u', hs', T'⟩ :=
  ⟨v, st.1.arr h.nfp h.arr, fun a => by
    rcases st.2 gw a with b | b
    · exact h.nfp b
    · have := h.arr.lt; omega⟩
/-- What a step answers and leaves. -/
def PlayP (B : Nat) (fp : Nat → Prop) (w : World) (gw gf gt : Nat) (a : AnsV) (s : Stt) (e : Ending) (w' : World) : Prop :=
  ∃ v fp', e = .returned (.agg (ansC a v).toArray) ∧ DirO w.heap.size w' v a.page ∧ WW B fp' w' gw gf gt s ∧ Stp (fpV fp gf) (fpV fp' gf) w w'
theorem PlayP.fin {B gw gf gt : Nat} {fp fp1 : Nat → Prop} {w w1 y z : World} {s s' : Stt} (h : WW B fp w gw gf gt s) (k1 : Keep w w1) (V : VW B fp1 y gf gt s'.u s'.hs s'.T) (st : Stp (fpV fp gf) (fpV fp1 gf) w1 y) {b c : Nat} (hb : w.heap.size ≤ b ∧ b < w1.heap.size) (hc : w.heap.size ≤ c ∧ c < w1.heap.size)
    {a : AnsV} {v : Value} (dv : DirO w1.heap.size y v a.page) (fr : Fr (fun q => q = b ∨ q = c) y z) : PlayP B fp w gw gf gt a s' (.returned (.agg (ansC a v).toArray)) z := by
  have h1 := (h.keep k1).stp V st
  have lt1 : ∀ q, fpV fp1 gf q → ¬ (q = b ∨ q = c) := fun q hq e => by
    rcases st.2 q hq with a | a
    · have := h.v.flt a; omega
    · omega
  refine ⟨v, fp1, rfl, ?_, ⟨⟨V.tree.fr fr (fun q hq => lt1 q (Or.inl hq)), ⟨fr.arr (lt1 gf (Or.inr rfl)) V.fs.arr, V.fs.len, V.fs.lt⟩, V.nfp, V.lo⟩, fr.arr (fun e => ?_) h1.arr, h1.nfp⟩, ?_⟩
  · exact (dv.fr fr (fun q hq e => by have := (dv.lt q hq).1; omega)).mono k1.size
  · have := h.arr.lt; omega
  · have S := (Stp.keep k1 (fp := fpV fp gf)).trans st
    refine ⟨⟨fr.os.trans S.1.os, fr.tape.trans S.1.tape, fr.output.trans S.1.output, Nat.le_trans S.1.size fr.size, fun k hk hp => ?_⟩, S.2⟩
    rw [fr.block k (Nat.lt_of_lt_of_le hk S.1.size) (by omega)]
    exact S.1.block k hk hp
/-- The three blocks that play makes. -/
structure Three (w w1 : World) (gw gf gt : Nat) (o : OpV) : Prop where
  k : Keep w w1
  ww : Arr w1 gw 43 [.pointer (some ⟨gt, 0, none⟩), .pointer (some ⟨gf, 0, none⟩)]
  a : Arr w1 w.heap.size 37 (opC o)
  b : Arr w1 (w.heap.size + 1) 34 zeroC
  c : Arr w1 (w.heap.size + 1 + 1) 34 zeroC
  sz : w1.heap.size = w.heap.size + 3
theorem Three.mk' {B gw gf gt : Nat} {fp : Nat → Prop} {w : World} {s : Stt} (h : WW B fp w gw gf gt s) (o : OpV) : Three w (((w.alloc (.cells (opC o).toArray 37)).alloc (.cells zeroC.toArray 34)).alloc (.cells zeroC.toArray 34)) gw gf gt o := by
  have k1 := (Keep.refl w).alloc (.cells (opC o).toArray 37)
  have e1 : (w.alloc (.cells (opC o).toArray 37)).heap.size = w.heap.size + 1 := by simp
  have e2 : ((w.alloc (.cells (opC o).toArray 37)).alloc (.cells zeroC.toArray 34)).heap.size = w.heap.size + 1 + 1 := by simp
  have k := (k1.alloc (.cells zeroC.toArray 34)).alloc (.cells zeroC.toArray 34)
  have b := Arr.new (w.alloc (.cells (opC o).toArray 37)) 34 zeroC
  rw [e1] at b
  have c := Arr.new ((w.alloc (.cells (opC o).toArray 37)).alloc (.cells zeroC.toArray 34)) 34 zeroC
  rw [e2] at c
  exact ⟨k, h.arr.keep k, (Arr.new w 37 (opC o)).keep (((Keep.refl _).alloc _).alloc _), b.keep ((Keep.refl _).alloc _), c, by simp⟩
theorem Three.stp {B gw gf gt : Nat} {fp fp1 : Nat → Prop} {w w1 y : World} {s : Stt} {o : OpV} (t : Three w w1 gw gf gt o) (h : WW B fp w gw gf gt s) (st : Stp (fpV fp gf) (fpV fp1 gf) w1.drew y) :
    Arr y gw 43 [.pointer (some ⟨gt, 0, none⟩), .pointer (some ⟨gf, 0, none⟩)] ∧ Arr y w.heap.size 37 (opC o) ∧ Arr y (w.heap.size + 1) 34 zeroC ∧ Arr y (w.heap.size + 1 + 1) 34 zeroC := by
  have lt : ∀ q, w.heap.size ≤ q → ¬ fpV fp gf q := fun q hq a => by have := h.v.flt a; omega
  exact ⟨st.1.arr h.nfp t.ww, st.1.arr (lt _ (Nat.le_refl _)) t.a, st.1.arr (lt _ (by omega)) t.b, st.1.arr (lt _ (by omega)) t.c⟩
theorem SI.size {k u : Nat} {hs : List Hd} {T : List Nd} (s : SI k u hs T) (hk : k ≤ 80000) (i : Nat) : (statF T i).size ≤ 1000000 := by
  unfold statF
  simp only
  split
  · have := s.t.few i; omega
  · have := s.t.data i; omega
theorem cell_other {w : World} {g h i j : Nat} (hne : h ≠ g) (v : Value) : (w.setCell ⟨g, i, none⟩ v).cell? ⟨h, j, none⟩ = w.cell? ⟨h, j, none⟩ := by
  have e : (w.setCell ⟨g, i, none⟩ v).heap[h]? = w.heap[h]? := by simp [World.setCell, Array.getElem?_modify, Ne.symm hne]
  simp only [World.cell?, e]
end Go.Proofs.Qxb6500767a
