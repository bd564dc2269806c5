/- modes: (*HMAC).Reset, be32; what stands along PBKDF2. -/
import Derived.Test.Qxb6500769aPbA
namespace Go.Qm
open Go Go.RowKit
theorem grown_none {W W' : World} (h : W.grownBy W' none) (q : Nat) : W.grownBy W' (some q) := ⟨h.os, h.tape, h.output, h.size, fun k hk _ => h.block k hk (by simp)⟩
end Go.Qm
namespace Go.Proofs.Qxb6500769a
open Go.RowKit Go.Qm
set_option linter.unusedVariables false
set_option linter.unusedSimpArgs false
attribute [local go_sem ↓] Go.wp_at_zero Go.wp_at_succ

theorem reset_c (g h : Nat) (ai : Option Addr) (n ci : Nat) (sz : Value) (vo v5 v6 : Value) (w : World) (hd : Arr w g 58 [sz, .int .i64 h, .slice ai n ci, .int .i64 h, vo, v5, v6]) : Calls Try.prog 51 #[.pointer (some ⟨g, 0, none⟩)] w fun e w' =>
    e = .returned (.tuple #[]) ∧ w' = (w.setCell ⟨g, 5, none⟩ (.int .i64 h)).setCell ⟨g, 6, none⟩ (.slice ai n ci) := by
  have c1 := hd.cell 1
  have c2 := hd.cell 2
  have c5 := hd.cell 5
  have c6 := hd.cell 6
  have z5 := hd.frozen 5
  have z6 := hd.frozen 6
  simp only [List.getElem?_cons_zero, List.getElem?_cons_succ] at c1 c2 c5 c6
  go_enter Try.func51, Try.ntmps51
  go_wp2
  go_end0
  exact ⟨rfl, rfl⟩
theorem be32_c (x : Nat) (w : World) (hx : x < 4294967296) : Calls Try.prog 52 #[.int .u32 x] w fun e w' => ∃ v', e = .returned v' ∧ Own w.heap.size 5 w' v' ((dig x 4).map cb) ∧ Keep w w' := by
  have x1 : IntKind.u64.wrap (x : Int) = x := wrap_u64' x (by omega)
  go_enter Try.func52, Try.ntmps52
  go_wp2_with fail
  refine (digits_c x 4 _ (by omega) (by omega)).mono ?_
  rintro e w1 ⟨v1, rfl, o1, k1⟩
  go_wp2
  go_ret
  exact ⟨_, rfl, o1, k1⟩

/-- What stands along PBKDF2: the HMAC's cells, the buffers u and t, what is put out. -/
structure PS (w1 W : World) (g gt gu cu : Nat) (ov : Value) (cs : List Value) (U T O : List UInt8) : Prop where
  keep : Keep w1 W
  hd : Arr W g 58 cs
  t : Win W gt 5 [] T []
  u : ∃ sp, Win W gu 5 [] U sp ∧ U.length + sp.length = cu
  cm : cu ≤ maxLen
  o : Own w1.heap.size 5 W ov (O.map cb)
  lg : w1.heap.size ≤ g
  lt : w1.heap.size ≤ gt
  lu : w1.heap.size ≤ gu
  ngt : g ≠ gt
  ngu : g ≠ gu
  ntu : gt ≠ gu
  no : ∀ q, ov.ownBlock = some q → q ≠ g ∧ q ≠ gt ∧ q ≠ gu
section
variable {w1 W W' : World} {g gt gu cu : Nat} {ov : Value} {cs : List Value} {U T O : List UInt8}
theorem PS.step (h : PS w1 W g gt gu cu ov cs U T O) (k : Keep W W') : PS w1 W' g gt gu cu ov cs U T O := by
  obtain ⟨sp, hu, hl⟩ := h.u
  exact ⟨h.keep.trans k, h.hd.keep k, h.t.keep k, ⟨sp, hu.keep k, hl⟩, h.cm, h.o.keep k, h.lg, h.lt, h.lu, h.ngt, h.ngu, h.ntu, h.no⟩
theorem PS.ne_g (h : PS w1 W g gt gu cu ov cs U T O) : ov.ownBlock ≠ some g ∧ ov.ownBlock ≠ some gt ∧ ov.ownBlock ≠ some gu :=
  ⟨fun e => (h.no _ e).1 rfl, fun e => (h.no _ e).2.1 rfl, fun e => (h.no _ e).2.2 rfl⟩
theorem PS.seth (h : PS w1 W g gt gu cu ov cs U T O) (i : Nat) (x : Value) : PS w1 (W.setCell ⟨g, i, none⟩ x) g gt gu cu ov (cs.set i x) U T O := by
  obtain ⟨sp, hu, hl⟩ := h.u
  have gr := grown_set (grown_refl W (some g)) i x
  exact ⟨h.keep.setCell h.lg _, h.hd.set i x, h.t.kept gr (Ne.symm h.ngt), ⟨sp, hu.kept gr (Ne.symm h.ngu), hl⟩, h.cm, h.o.kept gr (Or.inr h.ne_g.1), h.lg, h.lt, h.lu, h.ngt, h.ngu, h.ntu, h.no⟩
theorem PS.tgrow (h : PS w1 W g gt gu cu ov cs U T O) {T' : List UInt8} (gr : W.grownBy W' (some gt)) (hw : Win W' gt 5 [] T' []) : PS w1 W' g gt gu cu ov cs U T' O := by
  obtain ⟨sp, hu, hl⟩ := h.u
  exact ⟨h.keep.grown gr (fun q hq => by simp at hq; have := h.lt; omega), h.hd.kept gr h.ngt, hw, ⟨sp, hu.kept gr (Ne.symm h.ntu), hl⟩, h.cm, h.o.kept gr (Or.inr h.ne_g.2.1), h.lg, h.lt, h.lu, h.ngt, h.ngu, h.ntu, h.no⟩
theorem PS.sett (h : PS w1 W g gt gu cu ov cs U T O) {i : Nat} (hi : i < T.length) (x : UInt8) : PS w1 (W.setCell ⟨gt, i, none⟩ (.int .u8 x.toNat)) g gt gu cu ov cs U (T.set i x) O :=
  h.tgrow (grown_set (grown_refl W (some gt)) i _) (h.t.set hi x (by simp))
/-- The buffer u, cut to nothing. -/
theorem PS.u0 (h : PS w1 W g gt gu cu ov cs U T O) : Own w1.heap.size 5 W (.slice (some ⟨gu, 0, none⟩) 0 cu) (([] : List UInt8).map cb) := by
  obtain ⟨sp, hu, hl⟩ := h.u
  exact Own.of_blk (xs := []) (sp := U.map cb ++ sp) h.lu (by simpa [Win] using hu) (by simpa using hl) h.cm
theorem PS.ub (h : PS w1 W g gt gu cu ov cs U T O) : Bs W (.slice (some ⟨gu, 0, none⟩) U.length cu) U := by
  obtain ⟨sp, hu, hl⟩ := h.u
  exact hu.bs rfl (by omega) h.cm
theorem PS.tb (h : PS w1 W g gt gu cu ov cs U T O) {n : Nat} (hn : n = T.length) (hm : n ≤ maxLen) : Bs W (.slice (some ⟨gt, 0, none⟩) n n) T := h.t.bs hn (Nat.le_refl _) hm
/-- Behind a Sum into u's buffer. -/
theorem PS.usum (h : PS w1 W g gt gu cu ov cs U T O) {v' : Value} {U' : List UInt8} (hU : U'.length ≠ 0) (gr : W.grownBy W' (some gu)) (hown : Own w1.heap.size 5 W' v' (U'.map cb)) (hob : v'.ownBlock = some gu ∨ ∃ q, v'.ownBlock = some q ∧ W.heap.size ≤ q) :
    ∃ gu' cu', v' = .slice (some ⟨gu', 0, none⟩) U'.length cu' ∧ PS w1 W' g gt gu' cu' ov cs U' T O := by
  rcases hown.win with ⟨_, hn⟩ | ⟨gu', cu', sp, hv, hB, hwin, hl, hm⟩
  · rw [hn] at hU; simp at hU
  · have hq : gu' = gu ∨ W.heap.size ≤ gu' := by
      subst hv
      rcases hob with e | ⟨q, e, hq⟩
      · left; simpa [Value.ownBlock] using e
      · right; simp [Value.ownBlock] at e; omega
    have lg := h.hd.lt
    have lt := h.t.lt
    have ng := h.ngu
    have nt := h.ntu
    refine ⟨gu', cu', hv, h.keep.grown gr (fun q hq => by simp at hq; have := h.lu; omega), h.hd.kept gr h.ngu, h.t.kept gr h.ntu, ⟨sp, hwin, hl⟩, hm, h.o.kept gr (Or.inr h.ne_g.2.2), h.lg, h.lt, hB, h.ngt, by omega, by omega, fun q e => ?_⟩
    have h3 := h.no q e
    have hlt := (h.o.lt q e).2
    refine ⟨h3.1, h3.2.1, ?_⟩
    rcases hq with rfl | hq
    · exact h3.2.2
    · omega
/-- Behind an append to what is put out. -/
theorem PS.oapp (h : PS w1 W g gt gu cu ov cs U T O) {ov' : Value} {O' : List UInt8} (gr : W.grownBy W' ov.ownBlock) (hown : Own w1.heap.size 5 W' ov' (O'.map cb)) (hob : ov'.ownBlock = ov.ownBlock ∨ ov'.ownBlock = some W.heap.size) :
    PS w1 W' g gt gu cu ov' cs U T O' := by
  obtain ⟨sp, hu, hl⟩ := h.u
  have lg := h.hd.lt
  have lt := h.t.lt
  have lu := hu.lt
  have key : ∃ q, W.grownBy W' (some q) ∧ q ≠ g ∧ q ≠ gt ∧ q ≠ gu ∧ w1.heap.size ≤ q := by
    cases e : ov.ownBlock with
    | none => rw [e] at gr; exact ⟨W.heap.size, grown_none gr _, by omega, by omega, by omega, h.keep.size⟩
    | some q => rw [e] at gr; exact ⟨q, gr, (h.no q e).1, (h.no q e).2.1, (h.no q e).2.2, (h.o.lt q e).1⟩
  obtain ⟨q, gq, n1, n2, n3, n4⟩ := key
  refine ⟨h.keep.grown gq (fun r hr => by simp at hr; omega), h.hd.kept gq (Ne.symm n1), h.t.kept gq (Ne.symm n2), ⟨sp, hu.kept gq (Ne.symm n3), hl⟩, h.cm, hown, h.lg, h.lt, h.lu, h.ngt, h.ngu, h.ntu, fun r e => ?_⟩
  rcases hob with e' | e'
  · exact h.no r (by rw [← e', e])
  · rw [e'] at e; simp at e; omega
end
end Go.Proofs.Qxb6500769a
