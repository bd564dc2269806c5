/- foldindexlaw: what play answers. -/
import Derived.Test.Qxb6500766aDk
import Derived.Test.Qxb6500766aCb
namespace Go.Proofs.Qxb6500766a
open Go.RowKit Go.Qm
set_option linter.unusedVariables false
structure OpV where
  kind : Int
  dir : Int
  layer : Int
  name : List UInt8
  what : Int
def opC (o : OpV) : List Value := [.int .i64 o.kind, .int .i64 o.dir, .int .i64 o.layer, str o.name, .int .i64 o.what]
structure AnsV where
  er : Int
  key : List UInt8
  n : Int
  es : List Ent
def ans (e : Int) : AnsV := ⟨e, [], 0, []⟩
def afterF (name : List UInt8) : Option (List UInt8) := if name = [] then some [] else keyF name
def addF (R : Sys) (o : OpV) : AnsV × Sys :=
  if badA o.dir o.layer o.name o.what = true then (ans 1, R) else if hasR o.name (R o.dir.toNat o.layer.toNat) = true then (ans 2, R) else if 12 ≤ (R o.dir.toNat o.layer.toNat).length then (ans 3, R) else (ans 0, addS R o.dir.toNat o.layer.toNat (o.name, o.what))
def remF (R : Sys) (o : OpV) : AnsV × Sys :=
  if badR o.dir o.layer o.name = true then (ans 1, R) else if hasR o.name (R o.dir.toNat o.layer.toNat) = true then (ans 0, outS R o.dir.toNat o.layer.toNat o.name) else (ans 4, R)
def lookF (R : Sys) (o : OpV) : AnsV := match keyF o.name with
  | none => ans 5
  | some k => if dirB o.dir = true then ⟨0, k, (bear (R o.dir.toNat) k).length, bear (R o.dir.toNat) k⟩ else ans 1
def nextF (R : Sys) (o : OpV) : AnsV := match afterF o.name with
  | none => ans 5
  | some k => if dirB o.dir = true then ⟨nextE (nextK (R o.dir.toNat) k), accK (nextK (R o.dir.toNat) k), 0, []⟩ else ans 1
def cntF (R : Sys) (o : OpV) : AnsV := if dirB o.dir = true then ⟨0, [], cntK (R o.dir.toNat), []⟩ else ans 1
def playF (R : Sys) (o : OpV) : AnsV × Sys :=
  if o.kind = 1 then addF R o else if o.kind = 2 then remF R o else if o.kind = 3 then (lookF R o, R) else if o.kind = 4 then (nextF R o, R) else if o.kind = 5 then (cntF R o, R)
  else if o.kind = 6 ∨ o.kind = 7 then ((if dirB o.dir = true then ans 0 else ans 1), R) else if o.kind = 8 then (ans 0, R) else (ans 1, R)
def PlayP (B : Nat) (fp : Nat → Prop) (w : World) (gs gc N : Nat) (p : AnsV × Sys) (e : Ending) (w' : World) : Prop :=
  ∃ v fp', e = .returned (.agg #[.int .i64 p.1.er, str p.1.key, .int .i64 p.1.n, v]) ∧ EntO w.heap.size w' v p.1.es ∧ WW B fp' w' gs gc (N + 1) p.2 ∧ Stp fp fp' w w'
section
variable {B : Nat} {fp fp' : Nat → Prop} {w w1 w2 w3 : World} {gs gc N r : Nat} {R R' : Sys}
theorem PlayP.fin (W0 : WW B fp w gs gc N R) (k1 : Keep w w1) (h1 : w.heap.size ≤ r) (h2 : r < w1.heap.size) (st : Stp fp fp' w1 w2) (W2 : WW B fp' w2 gs gc (N + 1) R') {v : Value} {a : AnsV} (ev : EntO w1.heap.size w2 v a.es) (gr : w2.grownBy w3 (some r)) :
    PlayP B fp w gs gc N (a, R') (.returned (.agg #[.int .i64 a.er, str a.key, .int .i64 a.n, v])) w3 := by
  have hr : ¬ fp' r := fun a => by
    rcases st.2 r a with b | b
    · have := (W0.lo b).2; omega
    · omega
  refine ⟨v, fp', rfl, ?_, W2.fr (grown_fr gr) (fun q hq a => hr (by rw [← a]; exact hq)), ?_⟩
  · exact (ev.fr (grown_fr gr) (fun q hq a => by have := (ev.lt q hq).1; omega)).mono (k1.size)
  · have S := (Stp.keep k1 (fp := fp)).trans st
    refine ⟨⟨gr.os.trans S.1.os, gr.tape.trans S.1.tape, gr.output.trans S.1.output, Nat.le_trans S.1.size gr.size, fun k hk hp => ?_⟩, S.2⟩
    rw [gr.block k (Nat.lt_of_lt_of_le hk S.1.size) (by simp; omega)]
    exact S.1.block k hk hp
/-- An answer without a list, and nothing has turned. -/
theorem PlayP.plain (W0 : WW B fp w gs gc N R) (k1 : Keep w w1) (h1 : w.heap.size ≤ r) (h2 : r < w1.heap.size) (k2 : Keep w1 w2) (a : AnsV) (ha : a.es = []) (gr : w2.grownBy w3 (some r)) :
    PlayP B fp w gs gc N (a, R) (.returned (.agg #[.int .i64 a.er, str a.key, .int .i64 a.n, .slice none 0 0])) w3 :=
  PlayP.fin W0 k1 h1 h2 (Stp.keep k2) ((W0.keep (k1.trans k2)).le (Nat.le_succ N)) (by rw [ha]; exact OwnS.nil _ _ _ _ _) gr
theorem _root_.Go.Qm.Arr.stp {t : TypeId} {cs : List Value} (A : Arr w1 r t cs) (W0 : WW B fp w gs gc N R) (h1 : w.heap.size ≤ r) (st : Stp fp fp' w1 w2) : Arr w2 r t cs := st.1.arr (fun a => by have := (W0.lo a).2; omega) A
theorem _root_.Go.Qm.Arr.fpS {t : TypeId} {g : Nat} {cs : List Value} (A : Arr w1 g t cs) (hg : ¬ fp g) (st : Stp fp fp' w1 w2) : Arr w2 g t cs := st.1.arr hg A
end
end Go.Proofs.Qxb6500766a
