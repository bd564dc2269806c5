/- mutatem: Hold, Chmod, reap, Release. -/
import Derived.Test.Qxb6500767aTg
namespace Go.Proofs.Qxb6500767a
open Go.RowKit Go.Qm
set_option linter.unusedVariables false
set_option linter.unusedSimpArgs false
attribute [local go_sem ↓] Go.wp_at_zero Go.wp_at_succ
def Stp (fp fp' : Nat → Prop) (w w' : World) : Prop := Fr fp w w' ∧ ∀ q, fp' q → fp q ∨ w.heap.size ≤ q
theorem Stp.trans {a b c : Nat → Prop} {u v w : World} (h : Stp a b u v) (k : Stp b c v w) : Stp a c u w := by
  refine ⟨⟨k.1.os.trans h.1.os, k.1.tape.trans h.1.tape, k.1.output.trans h.1.output, Nat.le_trans h.1.size k.1.size, fun i hi hp => ?_⟩, fun q hq => ?_⟩
  · rw [k.1.block i (Nat.lt_of_lt_of_le hi h.1.size) (fun hb => by rcases h.2 i hb with a | a; exact hp a; omega), h.1.block i hi hp]
  · rcases k.2 q hq with a | a
    · exact h.2 q a
    · exact Or.inr (Nat.le_trans h.1.size a)
theorem Stp.keep {fp : Nat → Prop} {w w' : World} (k : Keep w w') : Stp fp fp w w' := ⟨Fr.keep k, fun _ a => Or.inl a⟩
theorem Stp.refl (fp : Nat → Prop) (w : World) : Stp fp fp w w := Stp.keep (Keep.refl w)
/-- The tree at block gt is T; its blocks are fp. -/
def TreeW (B : Nat) (fp : Nat → Prop) (w : World) (gt : Nat) (T : List Nd) : Prop := ∃ nv L, TW B w gt nv L ∧ L.map (·.nd) = T ∧ fp = FPT gt nv L
section
variable {B gt : Nat} {fp : Nat → Prop} {w w' : World} {T : List Nd}
theorem TreeW.tr (h : TreeW B fp w gt T) : TR w gt T := by obtain ⟨nv, L, h, rfl, -⟩ := h; exact h.tr
theorem TreeW.keep (h : TreeW B fp w gt T) (k : Keep w w') : TreeW B fp w' gt T := by obtain ⟨nv, L, h, e, e2⟩ := h; exact ⟨nv, L, h.keep k, e, e2⟩
theorem TreeW.fr {P : Nat → Prop} (h : TreeW B fp w gt T) (k : Fr P w w') (hp : ∀ q, fp q → ¬ P q) : TreeW B fp w' gt T := by obtain ⟨nv, L, h, e, rfl⟩ := h; exact ⟨nv, L, h.fr k hp, e, rfl⟩
theorem TreeW.own (h : TreeW B fp w gt T) {q : Nat} (hq : fp q) : B ≤ q ∧ q < w.heap.size := by obtain ⟨nv, L, h, e, rfl⟩ := h; exact h.own hq
theorem TreeW.root (h : TreeW B fp w gt T) : fp gt := by obtain ⟨nv, L, h, e, rfl⟩ := h; exact Or.inl rfl
end
theorem TW.num {B gt bn cap : Nat} {w : World} {nv : Value} {L : List Nm} (h : TW B w gt nv L) (hv : nv = .slice (some ⟨bn, 0, none⟩) L.length cap) {i : Nat} (hi : i < L.length) {j : Nat} (hj : j < 7) (nd' : Nd) (u : Value) (hx : nodC ⟨nd', L[i].dv, L[i].ev⟩ = (nodC L[i]).set j u) (hd : nd'.data = L[i].nd.data) (he : nd'.edges = L[i].nd.edges) (hkd : nd'.kind = L[i].nd.kind) :
    TW B (w.setCell ⟨bn, i * 7 + j, none⟩ u) gt nv (L.set i ⟨nd', L[i].dv, L[i].ev⟩) ∧ Stp (FPT gt nv L) (FPT gt nv (L.set i ⟨nd', L[i].dv, L[i].ev⟩)) w (w.setCell ⟨bn, i * 7 + j, none⟩ u) := by
  have hob : nv.ownBlock = some bn := by rw [hv]; rfl
  have F : Fr (fun q => q = bn) w (w.setCell ⟨bn, i * 7 + j, none⟩ u) := (Fr.refl (fun q => q = bn) w).setCell (p := ⟨bn, i * 7 + j, none⟩) (Or.inl rfl) u
  have hnew : ∀ b q, (vl (⟨nd', L[i].dv, L[i].ev⟩ : Nm) b).ownBlock = some q → vb L i b = some q ∨ w.heap.size ≤ q := fun b q hq => Or.inl (by rw [vb_get hi]; cases b <;> exact hq)
  refine ⟨h.repl hi _ (h.rows.setc nodC_length hi hj _ u hx hob) F (fun q hq => Or.inl (by rw [hq]; exact hob)) ?_ ?_ hnew ?_, F.mono (fun q _ hq => Or.inr (Or.inl (by rw [hq]; exact hob))), fpt_set h hi hnew⟩
  · show Dat B _ L[i].dv nd'.data nd'.kind
    rw [hd, hkd]
    refine (h.data i hi).fr F (fun q hq e => ?_)
    subst e
    exact (h.ap1 i false q (by rw [vb_get hi]; exact hq)).2 hob
  · show EdgO B _ L[i].ev nd'.edges
    rw [he]
    refine (h.edges i hi).fr F (fun q hq e => ?_)
    subst e
    exact (h.ap1 i true q (by rw [vb_get hi]; exact hq)).2 hob
  · intro q a b
    have := (h.ap2 i i false true q (by rw [vb_get hi]; exact a) (by rw [vb_get hi]; exact b)).2
    cases this
/-- A number of node i is written. -/
theorem TreeW.num {B gt : Nat} {fp : Nat → Prop} {w : World} {T : List Nd} (h : TreeW B fp w gt T) {i : Nat} (hi : i < T.length) :
    ∃ bn cap, w.cell? ⟨gt, 0, none⟩ = some (.slice (some ⟨bn, 0, none⟩) T.length cap) ∧ T.length ≤ cap ∧ cap ≤ maxLen ∧
      (w.cell? ⟨bn, i * 7, none⟩ = some (.int .i64 ((at' T i).kind : Nat)) ∧ w.cell? ⟨bn, i * 7 + 1, none⟩ = some (.int .i64 (at' T i).mode) ∧ w.cell? ⟨bn, i * 7 + 2, none⟩ = some (.int .i64 ((at' T i).links : Nat)) ∧ w.cell? ⟨bn, i * 7 + 3, none⟩ = some (.int .i64 ((at' T i).opens : Nat)) ∧ w.cell? ⟨bn, i * 7 + 4, none⟩ = some (.int .i64 ((at' T i).par : Nat))) ∧
      (∀ j, w.frozen? ⟨bn, j, none⟩ = false) ∧
      (∀ x : Int, ∃ fp', TreeW B fp' (w.setCell ⟨bn, i * 7 + 1, none⟩ (.int .i64 x)) gt (T.set i { at' T i with mode := x }) ∧ Stp fp fp' w (w.setCell ⟨bn, i * 7 + 1, none⟩ (.int .i64 x))) ∧
      (∀ x : Nat, ∃ fp', TreeW B fp' (w.setCell ⟨bn, i * 7 + 2, none⟩ (.int .i64 (x : Nat))) gt (T.set i { at' T i with links := x }) ∧ Stp fp fp' w (w.setCell ⟨bn, i * 7 + 2, none⟩ (.int .i64 (x : Nat)))) ∧
      (∀ x : Nat, ∃ fp', TreeW B fp' (w.setCell ⟨bn, i * 7 + 3, none⟩ (.int .i64 (x : Nat))) gt (T.set i { at' T i with opens := x }) ∧ Stp fp fp' w (w.setCell ⟨bn, i * 7 + 3, none⟩ (.int .i64 (x : Nat)))) ∧
      (∀ x : Nat, ∃ fp', TreeW B fp' (w.setCell ⟨bn, i * 7 + 4, none⟩ (.int .i64 (x : Nat))) gt (T.set i { at' T i with par := x }) ∧ Stp fp fp' w (w.setCell ⟨bn, i * 7 + 4, none⟩ (.int .i64 (x : Nat)))) := by
  obtain ⟨nv, L, h, rfl, rfl⟩ := h
  have hi' : i < L.length := by simpa using hi
  obtain ⟨bn, cap, cur, e, hB, hA, hc, hm, hl, ht⟩ := h.form
  obtain ⟨c0, c1, c2, c3, c4, c5, c6⟩ := h.row e hi'
  rw [at_map hi']
  refine ⟨bn, cap, by rw [h.tree.cell 0, e]; simp, by simpa using hc, hm, ⟨c0, c1, c2, c3, c4⟩, fun j => hA.frozen j, ?_, ?_, ?_, ?_⟩
  · intro x
    obtain ⟨t, s⟩ := h.num e hi' (j := 1) (by omega) { L[i].nd with mode := x } (.int .i64 x) rfl rfl rfl rfl
    exact ⟨_, ⟨nv, _, t, by rw [List.map_set], rfl⟩, s⟩
  · intro x
    obtain ⟨t, s⟩ := h.num e hi' (j := 2) (by omega) { L[i].nd with links := x } (.int .i64 (x : Nat)) rfl rfl rfl rfl
    exact ⟨_, ⟨nv, _, t, by rw [List.map_set], rfl⟩, s⟩
  · intro x
    obtain ⟨t, s⟩ := h.num e hi' (j := 3) (by omega) { L[i].nd with opens := x } (.int .i64 (x : Nat)) rfl rfl rfl rfl
    exact ⟨_, ⟨nv, _, t, by rw [List.map_set], rfl⟩, s⟩
  · intro x
    obtain ⟨t, s⟩ := h.num e hi' (j := 4) (by omega) { L[i].nd with par := x } (.int .i64 (x : Nat)) rfl rfl rfl rfl
    exact ⟨_, ⟨nv, _, t, by rw [List.map_set], rfl⟩, s⟩
/-- What a call that changes the tree leaves. -/
def RetT (B : Nat) (fp : Nat → Prop) (w : World) (gt : Nat) (T' : List Nd) (r e : Ending) (w' : World) : Prop := ∃ fp', e = r ∧ TreeW B fp' w' gt T' ∧ Stp fp fp' w w'
set_option maxRecDepth 3000 in
theorem hold_c (B gt i : Nat) (fp : Nat → Prop) (T : List Nd) (w : World) (h : TreeW B fp w gt T) (hi : i < T.length) (ho : (at' T i).opens ≤ 1000000) :
    Calls Try.prog 82 #[.pointer (some ⟨gt, 0, none⟩), .int .i64 i] w fun e w' => RetT B fp w gt (T.set i { at' T i with opens := (at' T i).opens + 1 }) (.returned (.tuple #[])) e w' := by
  obtain ⟨bn, cap, c0, h1, h2, ⟨-, -, -, n3, -⟩, fz, -, -, no, -⟩ := h.num hi
  obtain ⟨fp', t, s⟩ := no ((at' T i).opens + 1)
  have HT := Hid.mk t
  have HS := Hid.mk s
  have hf := fz (i * 7 + 3)
  have i1 : (i : Int) < T.length := by omega
  have i0 : (0 : Int) ≤ i := by omega
  unfold maxLen at h2
  have e1 : IntKind.i64.wrap (((at' T i).opens : Int) + 1) = (((at' T i).opens + 1 : Nat) : Int) := by rw [IntKind.wrap_i64] <;> omega
  generalize (at' T i).opens + 1 = o1 at *
  generalize (at' T i).opens = o0 at *
  clear fz no t s h
  go_enter Try.func82, Try.ntmps82
  go_wp2_with fail
  go_end0
  exact ⟨fp', rfl, HT.out, HS.out⟩
set_option maxRecDepth 3000 in
theorem chmod_c (B gt i : Nat) (m : Int) (fp : Nat → Prop) (T : List Nd) (w : World) (h : TreeW B fp w gt T) (hi : i < T.length) :
    Calls Try.prog 87 #[.pointer (some ⟨gt, 0, none⟩), .int .i64 i, .int .i64 m] w fun e w' => RetT B fp w gt (T.set i { at' T i with mode := m }) (.returned (.tuple #[])) e w' := by
  obtain ⟨bn, cap, c0, h1, h2, ⟨-, n1, -, -, -⟩, fz, nm, -, -, -⟩ := h.num hi
  obtain ⟨fp', t, s⟩ := nm m
  have HT := Hid.mk t
  have HS := Hid.mk s
  have hf := fz (i * 7 + 1)
  have i1 : (i : Int) < T.length := by omega
  have i0 : (0 : Int) ≤ i := by omega
  unfold maxLen at h2
  clear fz nm t s h
  go_enter Try.func87, Try.ntmps87
  go_wp2_with fail
  go_end0
  exact ⟨fp', rfl, HT.out, HS.out⟩
theorem TW.zero {B gt bn cap : Nat} {w : World} {nv : Value} {L : List Nm} (h : TW B w gt nv L) (hv : nv = .slice (some ⟨bn, 0, none⟩) L.length cap) {i : Nat} (hi : i < L.length) {w' : World} (hw : w' = (((((((w.setCell ⟨bn, i * 7, none⟩ (.int .i64 0)).setCell ⟨bn, i * 7 + 1, none⟩ (.int .i64 0)).setCell ⟨bn, i * 7 + 2, none⟩ (.int .i64 0)).setCell ⟨bn, i * 7 + 3, none⟩ (.int .i64 0)).setCell ⟨bn, i * 7 + 4, none⟩ (.int .i64 0)).setCell ⟨bn, i * 7 + 5, none⟩ (.slice none 0 0)).setCell ⟨bn, i * 7 + 6, none⟩ (.slice none 0 0))) :
    TW B w' gt nv (L.set i ⟨nd0, .slice none 0 0, .slice none 0 0⟩) ∧ Stp (FPT gt nv L) (FPT gt nv (L.set i ⟨nd0, .slice none 0 0, .slice none 0 0⟩)) w w' := by
  have hob : nv.ownBlock = some bn := by rw [hv]; rfl
  have r1 := h.rows.setc nodC_length hi (j := 0) (by omega) ⟨{ L[i].nd with kind := 0 }, L[i].dv, L[i].ev⟩ (.int .i64 0) rfl hob
  have r2 := r1.setc nodC_length (i := i) (by simpa using hi) (j := 1) (by omega) ⟨{ L[i].nd with kind := 0, mode := 0 }, L[i].dv, L[i].ev⟩ (.int .i64 0) (by rw [List.getElem_set_self]; rfl) hob
  rw [List.set_set] at r2
  have r3 := r2.setc nodC_length (i := i) (by simpa using hi) (j := 2) (by omega) ⟨{ L[i].nd with kind := 0, mode := 0, links := 0 }, L[i].dv, L[i].ev⟩ (.int .i64 0) (by rw [List.getElem_set_self]; rfl) hob
  rw [List.set_set] at r3
  have r4 := r3.setc nodC_length (i := i) (by simpa using hi) (j := 3) (by omega) ⟨{ L[i].nd with kind := 0, mode := 0, links := 0, opens := 0 }, L[i].dv, L[i].ev⟩ (.int .i64 0) (by rw [List.getElem_set_self]; rfl) hob
  rw [List.set_set] at r4
  have r5 := r4.setc nodC_length (i := i) (by simpa using hi) (j := 4) (by omega) ⟨{ L[i].nd with kind := 0, mode := 0, links := 0, opens := 0, par := 0 }, L[i].dv, L[i].ev⟩ (.int .i64 0) (by rw [List.getElem_set_self]; rfl) hob
  rw [List.set_set] at r5
  have r6 := r5.setc nodC_length (i := i) (by simpa using hi) (j := 5) (by omega) ⟨{ L[i].nd with kind := 0, mode := 0, links := 0, opens := 0, par := 0 }, .slice none 0 0, L[i].ev⟩ (.slice none 0 0) (by rw [List.getElem_set_self]; rfl) hob
  rw [List.set_set] at r6
  have r7 := r6.setc nodC_length (i := i) (by simpa using hi) (j := 6) (by omega) ⟨nd0, .slice none 0 0, .slice none 0 0⟩ (.slice none 0 0) (by rw [List.getElem_set_self]; rfl) hob
  rw [List.set_set] at r7
  have F0 := Fr.refl (fun q => q = bn) w
  have F : Fr (fun q => q = bn) w w' := by
    rw [hw]
    exact ((((((F0.setCell (p := ⟨bn, i * 7, none⟩) (Or.inl rfl) _).setCell (p := ⟨bn, i * 7 + 1, none⟩) (Or.inl rfl) _).setCell (p := ⟨bn, i * 7 + 2, none⟩) (Or.inl rfl) _).setCell (p := ⟨bn, i * 7 + 3, none⟩) (Or.inl rfl) _).setCell (p := ⟨bn, i * 7 + 4, none⟩) (Or.inl rfl) _).setCell (p := ⟨bn, i * 7 + 5, none⟩) (Or.inl rfl) _).setCell (p := ⟨bn, i * 7 + 6, none⟩) (Or.inl rfl) _
  have hnew : ∀ b q, (vl (⟨nd0, .slice none 0 0, .slice none 0 0⟩ : Nm) b).ownBlock = some q → vb L i b = some q ∨ w.heap.size ≤ q := fun b q hq => by cases b <;> cases hq
  rw [Nat.add_zero, ← hw] at r7
  exact ⟨h.repl hi _ r7 F (fun q hq => Or.inl (by rw [hq]; exact hob)) (Dat.of_own (d := []) (World.ownsRow_nil _ _ _ _) _) (OwnS.nil _ _ _ _ _) hnew (fun q a => by cases a), F.mono (fun q _ hq => Or.inr (Or.inl (by rw [hq]; exact hob))), fpt_set h hi hnew⟩
def reapF (T : List Nd) (i : Nat) : List Nd := if (at' T i).links = 0 ∧ (at' T i).opens = 0 then T.set i nd0 else T
set_option maxRecDepth 3000 in
theorem reap_c (B gt i : Nat) (fp : Nat → Prop) (T : List Nd) (w : World) (h : TreeW B fp w gt T) (hi : i < T.length) :
    Calls Try.prog 95 #[.pointer (some ⟨gt, 0, none⟩), .int .i64 i] w fun e w' => RetT B fp w gt (reapF T i) (.returned (.tuple #[])) e w' := by
  have h0 := h
  obtain ⟨nv, L, h, rfl, rfl⟩ := h
  have hi' : i < L.length := by simpa using hi
  obtain ⟨bn, cap, cur, e, hB, hA, hc, hm, hl, ht⟩ := h.form
  obtain ⟨n0, n1, n2, n3, n4, n5, n6⟩ := h.row e hi'
  have c0 : w.cell? ⟨gt, 0, none⟩ = some (.slice (some ⟨bn, 0, none⟩) L.length cap) := by rw [h.tree.cell 0, e]; rfl
  have f0 := hA.frozen (i * 7)
  have f1 := hA.frozen (i * 7 + 1)
  have f2 := hA.frozen (i * 7 + 2)
  have f3 := hA.frozen (i * 7 + 3)
  have f4 := hA.frozen (i * 7 + 4)
  have f5 := hA.frozen (i * 7 + 5)
  have f6 := hA.frozen (i * 7 + 6)
  have i1 : (i : Int) < L.length := by omega
  have i0 : (0 : Int) ≤ i := by omega
  have Z := Hid.mk (h.zero e hi' rfl)
  have HH := Hid.mk h0
  unfold reapF
  rw [at_map hi']
  unfold maxLen at hm
  generalize L[i].nd.links = lk at *
  generalize L[i].nd.opens = op at *
  generalize L[i].dv = dv at *
  generalize L[i].ev = ev at *
  clear h0 h hA ht e
  by_cases a1 : lk = 0
  · by_cases a2 : op = 0
    · rw [if_pos ⟨a1, a2⟩]
      subst a1 a2
      go_enter Try.func95, Try.ntmps95
      go_wp2_with fail
      go_end0
      exact ⟨_, rfl, ⟨nv, _, Z.out.1, by rw [List.map_set], rfl⟩, Z.out.2⟩
    · rw [if_neg (fun a => a2 a.2)]
      subst a1
      have q1 : ((op : Int) == 0) = false := by simp; omega
      clear a2
      go_enter Try.func95, Try.ntmps95
      go_wp2_with fail
      go_end0
      exact ⟨_, rfl, HH.out, Stp.refl _ _⟩
  · rw [if_neg (fun a => a1 a.1)]
    have q1 : ((lk : Int) == 0) = false := by simp; omega
    clear a1
    go_enter Try.func95, Try.ntmps95
    go_wp2_with fail
    go_end0
    exact ⟨_, rfl, HH.out, Stp.refl _ _⟩
theorem at_set {T : List Nd} {i : Nat} (hi : i < T.length) (x : Nd) : at' (T.set i x) i = x := by rw [at_get (by simpa using hi), List.getElem_set_self]
theorem at_set_ne {T : List Nd} {i j : Nat} (h : i ≠ j) (x : Nd) : at' (T.set i x) j = at' T j := by unfold at'; rw [List.getD_eq_getElem?_getD, List.getD_eq_getElem?_getD, List.getElem?_set_ne h]
def releaseF (T : List Nd) (i : Nat) : List Nd := reapF (T.set i { at' T i with opens := (at' T i).opens - 1 }) i
set_option maxRecDepth 3000 in
theorem release_c (B gt i : Nat) (fp : Nat → Prop) (T : List Nd) (w : World) (h : TreeW B fp w gt T) (hi : i < T.length) (ho : 1 ≤ (at' T i).opens) (ho2 : (at' T i).opens ≤ 1000000) :
    Calls Try.prog 84 #[.pointer (some ⟨gt, 0, none⟩), .int .i64 i] w fun e w' => RetT B fp w gt (releaseF T i) (.returned (.tuple #[])) e w' := by
  obtain ⟨bn, cap, c0, h1, h2, ⟨-, -, -, n3, -⟩, fz, -, -, no, -⟩ := h.num hi
  obtain ⟨fp', t, s⟩ := no ((at' T i).opens - 1)
  have hf := fz (i * 7 + 3)
  have i1 : (i : Int) < T.length := by omega
  have i0 : (0 : Int) ≤ i := by omega
  unfold maxLen at h2
  have e1 : IntKind.i64.wrap (((at' T i).opens : Int) - 1) = (((at' T i).opens - 1 : Nat) : Int) := by rw [IntKind.wrap_i64] <;> omega
  have RC := reap_c B gt i fp' _ _ t (by simpa using hi)
  rw [show reapF (T.set i { at' T i with opens := (at' T i).opens - 1 }) i = releaseF T i from rfl] at RC
  have HS := Hid.mk s
  generalize releaseF T i = T' at *
  generalize (at' T i).opens - 1 = o1 at *
  generalize (at' T i).opens = o0 at *
  clear fz no s h t
  go_enter Try.func84, Try.ntmps84
  go_wp2_with fail
  refine RC.mono ?_
  rintro e w1 ⟨fp2, rfl, t1, s1⟩
  go_wp2
  go_end0
  exact ⟨fp2, rfl, t1, HS.out.trans s1⟩
end Go.Proofs.Qxb6500767a
