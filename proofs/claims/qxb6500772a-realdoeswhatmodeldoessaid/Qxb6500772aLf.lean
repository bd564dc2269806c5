/- Loops in functions of many slots: the frame as a function of the slot's number. -/
import Derived.Test.Qxb6500772aMem
import Derived.Deep.LoopGhost
namespace Go.Qm
open Go Go.RowKit
set_option linter.unusedVariables false
def frm (n : Nat) (g : Nat → Value) : Act := ⟨((List.range n).map g).toArray, []⟩
theorem frm_of {a : Act} {n : Nat} (h : a.tmps.size = n) (hd : a.defers = []) : a = frm n (fun i => a.tmps.getD i undef) := by
  obtain ⟨t, d⟩ := a
  simp only at h hd
  subst hd
  unfold frm
  congr 1
  apply Array.ext
  · simp [h]
  · intro i h1 h2
    simp [Array.getD, h1]
/-- The frame has n slots; what the relation says of them. -/
def InvF (n : Nat) (Rel : Nat → (Nat → Value) → World → Prop) (k : Nat) (a : Act) (w : World) : Prop := ∃ g, a = frm n g ∧ Rel k g w
theorem InvF.of {n : Nat} {Rel : Nat → (Nat → Value) → World → Prop} {k : Nat} {a : Act} {w : World} (h : a.tmps.size = n) (hd : a.defers = []) (hr : Rel k (fun i => a.tmps.getD i undef) w) : InvF n Rel k a w := ⟨_, frm_of h hd, hr⟩
theorem wp_loop_frm {P : Program} {Q : Exit → Act → World → Prop} {a : Act} {w : World} {c : Code} (n : Nat) (Rel : Nat → (Nat → Value) → World → Prop) (n0 : Nat) (h : a.tmps.size = n) (hd : a.defers = []) (h0 : Rel n0 (fun i => a.tmps.getD i undef) w)
    (round : ∀ k g w, Rel k g w → ∀ (J : Nat → Act → World → Prop) (K : Act → World → Prop), (∀ k a' w', InvF n Rel k a' w' → J k a' w') → (∀ a' w', Handed J k a' w' → K a' w') → c.wp P (Exit.then K Q) (frm n g) w) : (Code.loop c).wp P Q a w :=
  wp_loop_ghost_k (InvF n Rel) n0 (InvF.of h hd h0) fun k a w hI J K hJ hK => by
    obtain ⟨g, rfl, hr⟩ := hI
    exact round k g w hr J K hJ hK
end Go.Qm
