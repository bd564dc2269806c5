/- mergem: the spellings and modes of a tree (plain). -/
import Derived.Test.Qxb6500767aGl
namespace Go.Proofs.Qxb6500767a
open Go.RowKit Go.Qm
set_option linter.unusedVariables false
set_option linter.unusedSimpArgs false
def MR (m : Int) : Prop := -9223372036854775808 < m ∧ m ≤ 9223372036854775807
structure NG (x : Nd) : Prop where
  spl : ∀ e ∈ x.edges, e.spl.length ≤ 255
  mode : MR x.mode
def SPM (T : List Nd) : Prop := ∀ i, NG (at' T i)
theorem ng0 : NG nd0 := ⟨fun e he => by simp [nd0] at he, by unfold MR nd0; simp⟩
theorem at_or (T : List Nd) (i : Nat) (x : Nd) (j : Nat) : at' (T.set i x) j = x ∨ at' (T.set i x) j = at' T j := by
  rcases Nat.lt_or_ge i T.length with h | h
  · rw [at_upd h]
    by_cases e : j = i
    · rw [if_pos e]; exact Or.inl rfl
    · rw [if_neg e]; exact Or.inr rfl
  · rw [List.set_eq_of_length_le h]; exact Or.inr rfl
theorem SPM.set {T : List Nd} (h : SPM T) (i : Nat) {x : Nd} (hx : NG x) : SPM (T.set i x) := fun j => by
  rcases at_or T i x j with e | e
  · rw [e]; exact hx
  · rw [e]; exact h j
theorem SPM.app {T : List Nd} (h : SPM T) {x : Nd} (hx : NG x) : SPM (T ++ [x]) := fun j => by
  rcases Nat.lt_trichotomy j T.length with a | a | a
  · rw [at_app x a]; exact h j
  · rw [a, at_last]; exact hx
  · rw [at_ge (by simp; omega)]; exact ng0
theorem SPM.det {T : List Nd} (h : SPM T) (d : Nat) (key : List UInt8) : SPM (detT T d key) := h.set d ⟨fun e he => (h d).spl e (det_mem.1 he).1, (h d).mode⟩
theorem SPM.att {T : List Nd} (h : SPM T) (d : Nat) (key : List UInt8) {nm : List UInt8} (hn : nm.length ≤ 255) (n : Nat) : SPM (attT T d key nm n) := h.set d ⟨fun e he => by
  rcases ins_mem.1 he with rfl | he
  · exact hn
  · exact (h d).spl e he, (h d).mode⟩
theorem SPM.reap {T : List Nd} (h : SPM T) (n : Nat) : SPM (reapF T n) := by
  unfold reapF
  split
  · exact h.set n ng0
  · exact h
theorem SPM.drop {T : List Nd} (h : SPM T) (d : Nat) (key : List UInt8) (n : Nat) : SPM (dropT T d key n) := by
  unfold dropT decL
  exact ((h.det d key).set n (x := { at' (detT T d key) n with links := (at' (detT T d key) n).links - 1 }) ⟨((h.det d key) n).spl, ((h.det d key) n).mode⟩).reap n
theorem SPM.fin {T : List Nd} (h : SPM T) (fd : Nat) (fk : List UInt8) (td : Nat) (tk : List UInt8) {nm : List UInt8} (hn : nm.length ≤ 255) (n : Nat) : SPM (finT T fd fk td tk nm n) := by
  unfold finT
  have h2 := (h.det fd fk).att td tk hn n
  exact h2.set n ⟨(h2 n).spl, (h2 n).mode⟩
theorem par_name {T : List Nd} {path : List UInt8} (e : (parF T path).2.2.2 = 0) : (parF T path).2.1.length ≤ 255 := by
  unfold parF at *
  split at e
  · cases e
  · next h1 =>
    rw [if_neg h1]
    split at e
    · cases e
    · next h2 =>
      rw [if_neg h2]
      split at e
      · next h3 => exact absurd e h3
      · next h3 =>
        rw [if_neg h3]
        split at e
        · cases e
        · next h4 =>
          rw [if_neg h4]
          split at e
          · next h5 => exact absurd e h5
          · next h5 =>
            rw [if_neg h5]
            exact (keyR_ok (Decidable.not_not.1 h5)).2.2.2
theorem SPM.make {T : List Nd} (h : SPM T) (path : List UInt8) (kd : Nat) {mode : Int} (hm : MR mode) (d : List UInt8) : SPM (makeT T path kd mode d).1 := by
  unfold makeT
  split
  · exact h
  · next a =>
    split
    · exact h
    · split
      · exact h
      · show SPM (attT (T ++ [⟨kd, mode, 1, 0, (parF T path).1, d, []⟩]) (parF T path).1 (parF T path).2.2.1 (parF T path).2.1 T.length)
        exact (h.app ⟨fun e he => by simp at he, hm⟩).att _ _ (par_name (Decidable.not_not.1 a)) _
theorem SPM.res {T : List Nd} (h : SPM T) (i n : Nat) : SPM (resT T i n).1 := by
  unfold resT
  split
  · exact h
  · exact h.set i ⟨(h i).spl, (h i).mode⟩
theorem SPM.wr {T : List Nd} (h : SPM T) (i off : Nat) (s : List UInt8) : SPM (writeT T i off s).1 := by
  unfold writeT setD
  split
  · exact h
  · split
    · split
      · exact h
      · exact h.set i ⟨(h i).spl, (h i).mode⟩
    · exact h.set i ⟨(h i).spl, (h i).mode⟩
theorem splE_mem {es : List Edg} {j : Nat} {nm : List UInt8} {e : Edg} (h : e ∈ splE es j nm) : e ∈ es ∨ e.spl = nm := by
  unfold splE at h
  rcases List.mem_or_eq_of_mem_set h with a | a
  · exact Or.inl a
  · exact Or.inr (by rw [a])
theorem SPM.ren {T : List Nd} (h : SPM T) (f : Nat) (old path : List UInt8) : SPM (renF T f old path).1 := by
  obtain ⟨r, hr⟩ : ∃ r, r = renF T f old path := ⟨_, rfl⟩
  rw [← hr]
  unfold renF at hr
  split at hr
  · subst hr; exact h
  · split at hr
    · subst hr; exact h
    · split at hr
      · subst hr; exact h
      · next a =>
        have hn := par_name (T := T) (path := path) (Decidable.not_not.1 a)
        split at hr
        · subst hr; exact h
        · split at hr
          · subst hr
            refine h.set _ ⟨fun e he => ?_, (h _).mode⟩
            rcases splE_mem he with b | b
            · exact (h _).spl e b
            · rw [b]; exact hn
          · split at hr
            · subst hr; exact h.fin _ _ _ _ hn _
            · split at hr
              · subst hr; exact h
              · split at hr
                · subst hr; exact h
                · split at hr
                  · subst hr; exact h
                  · split at hr
                    · subst hr; exact h
                    · subst hr; exact (h.drop _ _ _).fin _ _ _ _ hn _
theorem vm_mr {m : Int} (h : vmB m = true) (hr : -9223372036854775808 ≤ m ∧ m ≤ 9223372036854775807) : MR m := by
  refine ⟨?_, hr.2⟩
  rcases Int.lt_or_eq_of_le hr.1 with a | a
  · exact a
  · rw [← a] at h
    exact absurd h (by decide)
theorem SPM.rel {T : List Nd} (h : SPM T) (i : Nat) : SPM (releaseF T i) := by
  unfold releaseF
  exact (h.set i (x := { at' T i with opens := (at' T i).opens - 1 }) ⟨(h i).spl, (h i).mode⟩).reap i
theorem chk_vm {fl m : Int} (h : chkF fl m = 0) (h4 : nob fl 4 = false) : vmB m = true := by
  unfold chkF at h
  split at h
  · cases h
  · next a =>
    unfold chkB at a
    rw [h4] at a
    cases hv : vmB m with
    | true => rfl
    | false => rw [hv] at a; simp at a
theorem SPM.op {T : List Nd} (h : SPM T) (u : Nat) (hs : List Hd) (path : List UInt8) (fl : Int) {mode : Int} (hr : -9223372036854775808 ≤ mode ∧ mode ≤ 9223372036854775807) : SPM (opF u hs T path fl mode).2.2.1 := by
  unfold opF
  split
  · exact h
  · next a =>
    split
    · exact h
    · split
      · next b =>
        have hm := h.make path 1 (vm_mr (chk_vm (Decidable.not_not.1 a) b.2) hr) []
        split
        · exact hm
        · exact hm.set _ ⟨(hm _).spl, (hm _).mode⟩
      · split
        · exact h
        · split
          · exact h
          · have h2 : SPM (if nob fl 16 = false then (resT T (pathF T path true).1 0).1 else T) := by
              split
              · exact h.res _ _
              · exact h
            exact h2.set _ ⟨(h2 _).spl, (h2 _).mode⟩
theorem play_spm {s : Stt} (h : SPM s.T) {o : OpV} (hr : -9223372036854775808 ≤ o.mode ∧ o.mode ≤ 9223372036854775807) : SPM (playF s o).2.T := by
  rcases kinds o.kind with hk | hk | hk | hk | hk | hk | hk | hk | hk | hk | hk | hk | hk | hk | hk | hk | hk | hk | hk | hk | hk | hk
  · rw [playF0 hk]; exact h
  · rw [playF1 hk]; exact h.op _ _ _ _ hr
  · rw [playF2 hk]
    simp only
    unfold clsF
    split
    · exact h
    · exact h.rel _
  · rw [playF3 hk]; exact h
  · rw [playF4 hk]; exact h
  · rw [playF5 hk]
    simp only
    unfold wrF
    repeat' split
    all_goals first | exact h | exact h.wr _ _ _
  · rw [playF6 hk]; exact h
  · rw [playF7 hk]
    simp only
    unfold ftrT
    repeat' split
    all_goals first | exact h | exact h.res _ _
  · rw [playF8 hk]; exact h
  · rw [playF9 hk]
    simp only
    unfold fchT
    split
    · exact h
    · split
      · exact h
      · next a => exact h.set _ ⟨(h _).spl, vm_mr (by simpa using a) hr⟩
  · rw [playF10 hk]; exact h
  · rw [playF11 hk]; exact h
  · rw [playF12 hk]; exact h
  · rw [playF13 hk]
    simp only
    unfold chpT
    split
    · exact h
    · next a =>
      split
      · exact h
      · exact h.set _ ⟨(h _).spl, vm_mr (by simpa using a) hr⟩
  · rw [playF14 hk]
    simp only
    unfold trpT
    repeat' split
    all_goals first | exact h | exact h.res _ _
  · rw [playF15 hk]; exact h
  · rw [playF16 hk]
    simp only
    unfold mkdT
    split
    · next a => exact h.make _ _ (vm_mr a hr) _
    · exact h
  · rw [playF17 hk]
    simp only
    unfold unlT
    repeat' split
    all_goals first | exact h | exact h.drop _ _ _
  · rw [playF18 hk]
    simp only
    unfold rmdT
    repeat' split
    all_goals first | exact h | exact h.drop _ _ _
  · rw [playF19 hk]; exact h.ren _ _ _
  · rw [playF20 hk]
    simp only
    unfold linkT
    split
    · exact h
    · split
      · exact h
      · split
        · exact h
        · next a =>
          split
          · exact h
          · exact (h.set (pathF s.T o.path false).1 (x := { at' s.T (pathF s.T o.path false).1 with links := (at' s.T (pathF s.T o.path false).1).links + 1 }) ⟨(h _).spl, (h _).mode⟩).att _ _ (par_name (Decidable.not_not.1 a)) _
  · rw [playF21 hk]
    simp only
    unfold symT
    split
    · exact h
    · split
      · exact h
      · exact h.make _ _ (by unfold MR; omega) _
theorem spm0 : SPM st0.T := fun i => by
  rcases Nat.eq_zero_or_pos i with e | e
  · subst e
    have h1 : at' st0.T 0 = root0 := rfl
    rw [h1]
    exact NG.mk (fun e he => absurd he (by simp [root0])) (by unfold MR root0; decide)
  · rw [at_ge (by show [_].length ≤ i; simp; omega)]; exact ng0
end Go.Proofs.Qxb6500767a
