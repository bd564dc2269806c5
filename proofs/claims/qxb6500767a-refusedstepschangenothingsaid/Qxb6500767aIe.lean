/- OpenGivesTheLeastFreeHandle: the plain part. -/
import Derived.Test.Qxb6500767aId
import Derived.Test.Qxb6500767aIb
namespace Go.Proofs.Qxb6500767a
open Go.RowKit Go.Qm
set_option linter.unusedVariables false
set_option linter.unusedSimpArgs false
theorem keyR_code (s : List UInt8) : (keyR s).1 ≠ 3 := by
  unfold keyR
  repeat' split
  all_goals (simp only; decide)
theorem walk_code (T : List Nd) (fl : Bool) (hh : Nat) (todo : List (List UInt8)) (a : Nat) : (walkF T fl hh todo a).2 ≠ 3 := by
  match todo with
  | [] => rw [wf_nil]; show (0 : Int) ≠ 3; decide
  | name :: rest =>
    by_cases h1 : (at' T a).kind = 2
    · by_cases h2 : name = [46]
      · rw [wf_dot h1 h2]; exact walk_code T fl hh rest a
      · by_cases h3 : name = [46, 46]
        · rw [wf_dd h1 h2 h3]; exact walk_code T fl hh rest _
        · by_cases h4 : (keyR name).1 = 0
          · cases h5 : findE (keyR name).2 (at' T a).edges with
            | none => rw [wf_no h1 h2 h3 h4 h5]; decide
            | some i =>
              by_cases h6 : (at' T (nxt T a i)).kind = 3 ∧ (rest ≠ [] ∨ fl = true)
              · match hh with
                | 0 => rw [wf_loop h1 h2 h3 h4 h5 h6]; decide
                | hh + 1 => rw [wf_hop h1 h2 h3 h4 h5 h6]; exact walk_code T fl hh _ _
              · rw [wf_go h1 h2 h3 h4 h5 h6]; exact walk_code T fl hh rest _
          · rw [wf_bad h1 h2 h3 h4]; exact keyR_code name
    · rw [wf_dir h1]; decide
termination_by (hh, todo.length)
theorem path_code (T : List Nd) (path : List UInt8) (fl : Bool) : (pathF T path fl).2 ≠ 3 := by
  unfold pathF
  split
  · decide
  · exact walk_code _ _ _ _ _
theorem par_code (T : List Nd) (path : List UInt8) : (parF T path).2.2.2 ≠ 3 := by
  unfold parF
  split
  · decide
  · split
    · decide
    · split
      · exact walk_code _ _ _ _ _
      · split
        · decide
        · split
          · exact keyR_code _
          · show (0 : Int) ≠ 3; decide
theorem make_code (T : List Nd) (path : List UInt8) (kd : Nat) (mode : Int) (d : List UInt8) : (makeT T path kd mode d).2.2 ≠ 3 := by
  unfold makeT
  split
  · exact par_code T path
  · split
    · show (10 : Int) ≠ 3; decide
    · split
      · show (14 : Int) ≠ 3; decide
      · show (0 : Int) ≠ 3; decide
theorem adm_code (x : Nd) (f : Int) : admF x f ≠ 3 := by
  unfold admF
  repeat' split
  all_goals decide
theorem chk_code (f m : Int) : chkF f m = 0 ∨ chkF f m = 2 := by
  unfold chkF
  split
  · exact Or.inr rfl
  · exact Or.inl rfl
/-- What an open answers. -/
theorem op_err {u : Nat} {hs : List Hd} {T : List Nd} {path : List UInt8} {fl mode : Int} :
    ((opF u hs T path fl mode).2.2.2.2 = 3 → lowN u = none) ∧ (lowN u = none → (opF u hs T path fl mode).2.2.2.2 = 3 ∨ (opF u hs T path fl mode).2.2.2.2 = 2) ∧
    ((opF u hs T path fl mode).2.2.2.2 = 0 → ∃ h nd fl' dr, lowN u = some h ∧ (opF u hs T path fl mode).2.2.2.1 = (h : Nat) ∧ (opF u hs T path fl mode).1 = u ||| 2 ^ h ∧ (opF u hs T path fl mode).2.1 = hs.set h ⟨nd, fl', dr, 0, []⟩) := by
  unfold opF
  split
  · next a =>
    have := chk_code fl mode
    exact ⟨fun e => by simp only at e; omega, fun _ => Or.inr (by simp only; omega), fun e => absurd e a⟩
  · split
    · next hl => exact ⟨fun _ => hl, fun _ => Or.inl rfl, fun e => by cases e⟩
    · next h hl =>
      rw [hl]
      split
      · split
        · next a => exact ⟨fun e => absurd e (make_code _ _ _ _ _), fun e => (by cases e), fun e => absurd e a⟩
        · exact ⟨fun e => (by cases e), fun e => (by cases e), fun _ => ⟨h, _, _, _, rfl, rfl, rfl, rfl⟩⟩
      · split
        · next a => exact ⟨fun e => absurd e (path_code _ _ _), fun e => (by cases e), fun e => absurd e a⟩
        · split
          · next a => exact ⟨fun e => absurd e (adm_code _ _), fun e => (by cases e), fun e => absurd e a⟩
          · exact ⟨fun e => (by cases e), fun e => (by cases e), fun _ => ⟨h, _, _, _, rfl, rfl, rfl, rfl⟩⟩
/-- The least handle that is not open; 32 if all are. -/
def leastN (u : Nat) : Nat := (lowN u).getD 32
theorem least_of {u L : Nat} (h1 : ∀ i, i < L → u.testBit i = true) (hL : L ≤ 32) (h2 : L < 32 → u.testBit L = false) : leastN u = L := by
  unfold leastN
  by_cases h : L < 32
  · rw [lowN_some h (h2 h) h1]; rfl
  · have : lowN u = none := by
      unfold lowN
      rw [List.find?_eq_none]
      intro i hi
      have : i < 32 := by simpa using hi
      rw [h1 i (by omega)]; simp
    rw [this]; show 32 = L; omega
theorem look_n (u : Nat) (hs : List Hd) {n : Nat} (hn : n < 32) : lookF u hs (n : Nat) = if u.testBit n = true then ⟨true, (hat hs n).node, (hat hs n).flags, (hat hs n).dir, (hat hs n).off, (hat hs n).cur⟩ else vw0 := by
  have ho : opn u (n : Int) = u.testBit n := by unfold opn; rw [decide_eq_true (by omega), decide_eq_true (by omega)]; simp
  unfold lookF
  rw [ho, Int.toNat_natCast]
/-- The views behind an open. -/
theorem open_views {u : Nat} {hs : List Hd} {h : Nat} (hh : h < 32) (hl : hs.length = 32) (x : Hd) :
    (viewsF (u ||| 2 ^ h) (hs.set h x))[h]? = some ⟨true, x.node, x.flags, x.dir, x.off, x.cur⟩ ∧ ∀ y, (viewsF u hs)[h]? = some y → (viewsF (u ||| 2 ^ h) (hs.set h x)).set h y = viewsF u hs := by
  constructor
  · rw [viewsF_get hh, look_n _ _ hh, if_pos (by rw [bit_set, decide_eq_true rfl, Bool.or_true]), hat_set (by rw [hl]; exact hh)]
  · intro y hy
    apply List.ext_getElem?
    intro i
    by_cases hi : i < 32
    · by_cases e : h = i
      · subst e
        rw [List.getElem?_set_self (by rw [viewsF_length]; exact hi), hy]
      · rw [List.getElem?_set_ne e, viewsF_get hi, viewsF_get hi, look_n _ _ hi, look_n _ _ hi, bit_set, decide_eq_false e, Bool.or_false, hat_set_ne e]
    · rw [List.getElem?_eq_none (by rw [List.length_set, viewsF_length]; omega), List.getElem?_eq_none (by rw [viewsF_length]; omega)]
theorem open_law {s : Stt} {o : OpV} (hk : o.kind = 1) : ((playF s o).1.er = 3 → leastN s.u = 32) ∧ (leastN s.u = 32 → (playF s o).1.er = 3 ∨ (playF s o).1.er = 2) ∧
    ((playF s o).1.er = 0 → ∃ (h nd : Nat) (fl' : Int) (dr : Bool), h < 32 ∧ leastN s.u = h ∧ (playF s o).1.n = (h : Nat) ∧ (playF s o).2.u = s.u ||| 2 ^ h ∧ (playF s o).2.hs = s.hs.set h ⟨nd, fl', dr, 0, []⟩) := by
  rw [playF1 hk]
  obtain ⟨h1, h2, h3⟩ := @op_err s.u s.hs s.T o.path o.flags o.mode
  have her : (opA s o).er = (opF s.u s.hs s.T o.path o.flags o.mode).2.2.2.2 := by
    unfold opA
    split
    · next a => exact a.symm
    · rfl
  refine ⟨fun e => ?_, fun e => ?_, fun e => ?_⟩
  · simp only at e; rw [her] at e
    unfold leastN; rw [h1 e]; rfl
  · simp only; rw [her]
    apply h2
    cases hl : lowN s.u with
    | none => rfl
    | some h =>
      have := (lowN_lt hl).1
      unfold leastN at e
      rw [hl] at e
      have e' : h = 32 := e
      omega
  · simp only at e ⊢; rw [her] at e
    obtain ⟨h, nd, fl', dr, hl, hn, hu, hhs⟩ := h3 e
    refine ⟨h, nd, fl', dr, (lowN_lt hl).1, by unfold leastN; rw [hl]; rfl, ?_, hu, hhs⟩
    unfold opA
    rw [if_pos e]
    exact hn
/-- The law on one operation: two equal arrays of views. -/
theorem wpList_neq49 {ops : Array Oper} {rest : List Oper} {o : Oper} {a : Act} {w : World} {Q : Exit → Act → World → Prop} (hgd : o.guard = none) (x y : Operand) (ho : o.op = .binOp .neq 49 x y 49) {V : List Vw} (hV : V.length = 32)
    (hx : a.eval x = .agg (V.flatMap vwC).toArray) (hy : a.eval y = .agg (V.flatMap vwC).toArray) (h : wpList Try.prog ops Q rest (a.put o.dst (.bool false)) w) : wpList Try.prog ops Q (o :: rest) a w :=
  wpList_plain hgd fun K hK => by
    unfold Oper.wp execOp
    simp only [ho, hx, hy, Sem.run_bind, guard49, neq_views hV, Result.andThen_ok]
    exact hK _ _ h
end Go.Proofs.Qxb6500767a
