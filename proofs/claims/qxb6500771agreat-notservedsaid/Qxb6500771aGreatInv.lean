/- A region that draws its order, by an invariant over what has come up: each operation is shown once, whatever the order. -/
import Derived.Test.Qxb6500771aGreatTlF
import Derived.OrdersHeld
namespace Go.Qm
open Go Go.RowKit
/-- How many operations are still to come. -/
def todo (listed : Array Bool) : Nat := (listed.toList.filter (fun b => !b)).length
theorem todo_set {listed : Array Bool} {i : Nat} (hi : i < listed.size) (hf : listed.getD i true = false) : todo (listed.setIfInBounds i true) + 1 = todo listed := by
  have hl : i < listed.toList.length := by simpa using hi
  have hg : listed.toList[i] = false := by
    have : listed.getD i true = listed[i] := by simp [Array.getD, hi]
    rw [this] at hf
    simpa using hf
  have e : listed.toList = listed.toList.take i ++ false :: listed.toList.drop (i + 1) := by
    rw [← hg, ← List.drop_eq_getElem_cons hl, List.take_append_drop]
  unfold todo
  rw [Array.toList_setIfInBounds, List.set_eq_take_append_cons_drop, if_pos hl]
  conv => rhs; rw [e]
  simp [List.filter_append]
  omega
theorem ready_mem {md : Region.Mode} {ops : Array Oper} {listed : Array Bool} {i : Nat} (h : i ∈ Region.ready md ops listed) : i < ops.size ∧ listed.getD i true = false := by
  unfold Region.ready at h
  simp only [List.mem_filter, List.mem_range, Bool.and_eq_true, Bool.not_eq_true'] at h
  exact ⟨h.1, h.2.1⟩
theorem wpAny_inv {P : Program} {md : Region.Mode} {ops : Array Oper} {Q : Exit → Act → World → Prop} (I : Array Bool → Act → World → Prop)
    (hstep : ∀ listed a w, listed.size = ops.size → I listed a w → ∀ i, i ∈ Region.ready md ops listed → wpOp P ops Q i (fun a' w' => I (listed.setIfInBounds i true) a' w') a w)
    (hend : ∀ listed a w, I listed a w → Region.ready md ops listed = [] → Q .normal a w) :
    ∀ (fuel : Nat) (listed : Array Bool) (a : Act) (w : World), listed.size = ops.size → todo listed ≤ fuel → I listed a w → wpAny P md ops Q fuel listed a w
  | 0, listed, a, w, hs, ht, hI => by
    have hr : Region.ready md ops listed = [] := by
      apply List.eq_nil_iff_forall_not_mem.2
      intro i hi
      obtain ⟨h1, h2⟩ := ready_mem hi
      have := todo_set (i := i) (by omega) h2
      omega
    exact ⟨hr, hend listed a w hI hr⟩
  | fuel + 1, listed, a, w, hs, ht, hI =>
    ⟨fun hr => hend listed a w hI hr, fun i hi => wpOp_mono (fun a' w' h' => wpAny_inv I hstep hend fuel _ a' w' (by simpa using hs) (by
      obtain ⟨h1, h2⟩ := ready_mem hi
      have := todo_set (i := i) (by omega) h2
      omega) h') (hstep listed a w hs hI i hi)⟩
theorem wp_region_inv {P : Program} {ops : Array Oper} {Q : Exit → Act → World → Prop} {id : Nat} {a : Act} {w : World} (hm : P.follows .mixedOrders = true) (I : Array Bool → Act → World → Prop)
    (hstep : ∀ listed a w, listed.size = ops.size → I listed a w → ∀ i, i ∈ Region.ready .any ops listed → wpOp P ops Q i (fun a' w' => I (listed.setIfInBounds i true) a' w') a w)
    (hend : ∀ listed a w, I listed a w → Region.ready .any ops listed = [] → Q .normal a w) (h0 : I (Array.replicate ops.size false) a w.drew) : (Code.region id ops true).wp P Q a w :=
  wp_region_any hm (wpAny_inv I hstep hend _ _ _ _ (by simp) (by simp [todo]) h0)
end Go.Qm
