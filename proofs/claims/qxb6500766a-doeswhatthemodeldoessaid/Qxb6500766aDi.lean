/- The stack and the cache as one: Lookup, Next, Count. -/
import Derived.Test.Qxb6500766aDg
import Derived.Test.Qxb6500766aDh
namespace Go.Proofs.Qxb6500766a
open Go.RowKit Go.Qm
set_option linter.unusedVariables false
set_option linter.unusedSimpArgs false
attribute [local go_sem ↓] Go.wp_at_zero Go.wp_at_succ
def FP (gs gc : Nat) (vs : List Value) (G : Nat → Option Tb) (q : Nat) : Prop := q = gs ∨ rf vs q ∨ cf gc G q
structure WW (B : Nat) (fp : Nat → Prop) (w : World) (gs gc N : Nat) (R : Sys) : Prop where
  ex : ∃ ck vs sh tl G, ck ≤ N ∧ StkW B w gs vs R ∧ CW B w gs gc ck R sh tl G ∧ ∀ q, fp q ↔ FP gs gc vs G q
  gsB : B ≤ gs
  gcB : B ≤ gc
def Stp (fp fp' : Nat → Prop) (w w' : World) : Prop := Fr fp w w' ∧ ∀ q, fp' q → fp q ∨ w.heap.size ≤ q
theorem Stp.trans {a b c : Nat → Prop} {u v w : World} (h : Stp a b u v) (k : Stp b c v w) : Stp a c u w := by
  refine ⟨⟨k.1.os.trans h.1.os, k.1.tape.trans h.1.tape, k.1.output.trans h.1.output, Nat.le_trans h.1.size k.1.size, fun i hi hp => ?_⟩, fun q hq => ?_⟩
  · rw [k.1.block i (Nat.lt_of_lt_of_le hi h.1.size) (fun a => (h.2 i a).elim hp (fun b => by omega))]
    exact h.1.block i hi hp
  · rcases k.2 q hq with a | a
    · exact h.2 q a
    · exact Or.inr (Nat.le_trans h.1.size a)
theorem Stp.keep {fp : Nat → Prop} {w w' : World} (k : Keep w w') : Stp fp fp w w' := ⟨Fr.keep k, fun _ a => Or.inl a⟩
theorem Stp.refl (fp : Nat → Prop) (w : World) : Stp fp fp w w := Stp.keep (Keep.refl w)
section
variable {B : Nat} {fp : Nat → Prop} {w w' : World} {gs gc N : Nat} {R : Sys}
theorem WW.fr (h : WW B fp w gs gc N R) {P : Nat → Prop} (k : Fr P w w') (hp : ∀ q, fp q → ¬ P q) : WW B fp w' gs gc N R := by
  obtain ⟨ck, vs, sh, tl, G, hc, S, C, hf⟩ := h.ex
  exact ⟨⟨ck, vs, sh, tl, G, hc, S.fr k (hp gs ((hf gs).2 (Or.inl rfl))) (fun q hq => hp q ((hf q).2 (Or.inr (Or.inl hq)))), C.fr k (fun q hq => hp q ((hf q).2 (Or.inr (Or.inr hq)))), hf⟩, h.gsB, h.gcB⟩
theorem WW.keep (h : WW B fp w gs gc N R) (k : Keep w w') : WW B fp w' gs gc N R := h.fr (P := fun _ => False) (Fr.keep k) (fun _ _ a => a)
theorem WW.le (h : WW B fp w gs gc N R) {M : Nat} (hm : N ≤ M) : WW B fp w gs gc M R := by
  obtain ⟨ck, vs, sh, tl, G, hc, S, C, hf⟩ := h.ex
  exact ⟨⟨ck, vs, sh, tl, G, by omega, S, C, hf⟩, h.gsB, h.gcB⟩
theorem WW.lo (h : WW B fp w gs gc N R) {q : Nat} (hq : fp q) : B ≤ q ∧ q < w.heap.size := by
  obtain ⟨ck, vs, sh, tl, G, hc, S, C, hf⟩ := h.ex
  rcases (hf q).1 hq with rfl | a | rfl | ⟨i, t, e, a⟩
  · exact ⟨h.gsB, S.A.lt⟩
  · exact S.rlo a
  · exact ⟨h.gcB, C.A.lt⟩
  · exact (C.ok i t e).2.tab.lo a
theorem WW.base (h : WW B fp w gs gc N R) : B ≤ w.heap.size := by
  obtain ⟨ck, vs, sh, tl, G, hc, S, C, hf⟩ := h.ex
  have := S.A.lt
  have := h.gsB
  omega
theorem WW.ok (h : WW B fp w gs gc N R) {d : Nat} (hd : d < 24) : DirOK (R d) := by
  obtain ⟨ck, vs, sh, tl, G, hc, S, C, hf⟩ := h.ex
  exact S.ok d hd
theorem WW.of {ck : Nat} {vs : List Value} {sh : List Shelf} {tl : List Value} {G : Nat → Option Tb} (S : StkW B w gs vs R) (C : CW B w gs gc ck R sh tl G) (hc : ck ≤ N) (h1 : B ≤ gs) (h2 : B ≤ gc) : WW B (FP gs gc vs G) w gs gc N R :=
  ⟨⟨ck, vs, sh, tl, G, hc, S, C, fun _ => Iff.rfl⟩, h1, h2⟩
/-- It answers r; the stack and the cache stand on. -/
def RetW (B : Nat) (fp : Nat → Prop) (w : World) (gs gc N : Nat) (R : Sys) (r e : Ending) (w' : World) : Prop := ∃ fp', e = r ∧ WW B fp' w' gs gc N R ∧ Stp fp fp' w w'
def LookW (B : Nat) (fp : Nat → Prop) (w : World) (gs gc N : Nat) (R : Sys) (es : List Ent) (e : Ending) (w' : World) : Prop := ∃ v fp', e = .returned (.tuple #[v, .int .i64 0]) ∧ EntO w.heap.size w' v es ∧ WW B fp' w' gs gc N R ∧ Stp fp fp' w w'
def FetW (B : Nat) (fp : Nat → Prop) (w : World) (gs gc N d : Nat) (R : Sys) (e : Ending) (w' : World) : Prop :=
  ∃ (i : Nat) (t : Tb) (fp' : Nat → Prop), e = .returned (.pointer (some ⟨gc, 1 + i * 6 + 3, none⟩)) ∧ WW B fp' w' gs gc (N + 1) R ∧ Stp fp fp' w w' ∧ t.dir = d ∧ TabW B w' t.b t.ss (R d) ∧ w'.cell? ⟨gc, 1 + i * 6 + 3, none⟩ = some (.slice (some ⟨t.b, 0, none⟩) t.ss.length t.ss.length) ∧ w'.cell? ⟨gc, 1 + i * 6 + 4, none⟩ = some (.int .i64 ((LiveL t.ss).length : Nat))
theorem fetchW (d : Nat) (h : WW B fp w gs gc N R) (hd : d < 24) (hN : N ≤ 1000000000000) : Calls Try.prog 42 #[.pointer (some ⟨gc, 0, none⟩), .int .i64 d] w fun e w' => FetW B fp w gs gc N d R e w' := by
  obtain ⟨ck, vs, sh, tl, G, hc, S, C, hf⟩ := h.ex
  refine (fetch_c B gs gc d ck vs sh tl R G w S C hd (by omega) h.base).mono ?_
  rintro e w' ⟨i, t, sh', tl', G', rfl, C', hG, rfl, gr, hcf⟩
  refine ⟨i, t, FP gs gc vs G', rfl, WW.of (S.grownC C gr) C' (by omega) h.gsB h.gcB, ⟨(grown_fr gr).mono (fun q _ e => (hf q).2 (Or.inr (Or.inr (Or.inl e)))), ?_⟩, rfl, (C'.ok i t hG).2.tab, C'.tcell hG, (Go.Qm.Arr.cell C'.A _).trans (C'.cells hG).c1⟩
  rintro q (a | a | a)
  · exact Or.inl ((hf q).2 (Or.inl a))
  · exact Or.inl ((hf q).2 (Or.inr (Or.inl a)))
  · rcases hcf q a with b | b
    · exact Or.inl ((hf q).2 (Or.inr (Or.inr b)))
    · exact Or.inr b
theorem lookupW (d : Nat) (k : List UInt8) (h : WW B fp w gs gc N R) (hd : d < 24) (hN : N ≤ 1000000000000) (hk : k.length ≤ 1000000) :
    Calls Try.prog 22 #[.pointer (some ⟨gc, 0, none⟩), .int .i64 d, str k] w fun e w' => LookW B fp w gs gc (N + 1) R (bear (R d) k) e w' := by
  have VD := validDir_c d w
  rw [show dirB d = true by simp [dirB]; omega] at VD
  have FC := fetchW d h hd hN
  have DK := h.ok hd
  go_enter Try.func22, Try.ntmps22
  go_wp2_with fail
  refine VD.mono ?_
  rintro e w1 ⟨rfl, rfl⟩
  go_wp2_with fail
  refine FC.mono ?_
  rintro e w2 ⟨i, t, fp', rfl, W2, st2, hdt, TW, cT, cL⟩
  go_wp2_with fail
  refine (get_tab B gc (1 + i * 6 + 3) t.b t.ss (R d) k w2 cT TW DK hk).mono ?_
  rintro e w3 ⟨v, rfl, ev, k3⟩
  go_wp2_with fail
  go_ret2
  exact ⟨v, fp', rfl, ev.mono st2.1.size, W2.keep k3, st2.trans (Stp.keep k3)⟩
theorem lookupBad (d : Int) (p kv : Value) (w : World) (hd : dirB d = false) : Calls Try.prog 22 #[p, .int .i64 d, kv] w fun e w' => e = .returned (.tuple #[.slice none 0 0, .int .i64 1]) ∧ w' = w := by
  have VD := validDir_c d w
  rw [hd] at VD
  go_enter Try.func22, Try.ntmps22
  go_wp2_with fail
  refine VD.mono ?_
  rintro e w1 ⟨rfl, rfl⟩
  go_wp2_with fail
  go_ret2
  exact ⟨rfl, rfl⟩
def nextE (o : Option (List UInt8)) : Int := if o.isSome then 0 else 4
theorem nextW (d : Nat) (k : List UInt8) (h : WW B fp w gs gc N R) (hd : d < 24) (hN : N ≤ 1000000000000) (hk : k.length ≤ 1000000) :
    Calls Try.prog 21 #[.pointer (some ⟨gc, 0, none⟩), .int .i64 d, str k] w fun e w' => RetW B fp w gs gc (N + 1) R (.returned (.tuple #[str (accK (nextK (R d) k)), .int .i64 (nextE (nextK (R d) k))])) e w' := by
  have VD := validDir_c d w
  rw [show dirB d = true by simp [dirB]; omega] at VD
  have FC := fetchW d h hd hN
  have AB := fun (i : Nat) (t : Tb) (W : World) c TW => above_tab B gc (1 + i * 6 + 3) t.b t.ss (R d) k W c TW hk
  generalize nextK (R d) k = o at *
  have HAB := Hid.mk AB
  clear AB
  go_enter Try.func21, Try.ntmps21
  go_wp2_with fail
  refine VD.mono ?_
  rintro e w1 ⟨rfl, rfl⟩
  go_wp2_with fail
  refine FC.mono ?_
  rintro e w2 ⟨i, t, fp', rfl, W2, st2, hdt, TW, cT, cL⟩
  have AC := HAB.out i t w2 cT TW
  go_wp2_with fail
  refine AC.mono ?_
  rintro e w3 ⟨rfl, k3⟩
  cases o with
  | none =>
    go_wp2_with fail
    go_ret2
    exact ⟨fp', rfl, W2.keep k3, st2.trans (Stp.keep k3)⟩
  | some x =>
    go_wp2_with fail
    go_ret2
    exact ⟨fp', rfl, W2.keep k3, st2.trans (Stp.keep k3)⟩
theorem nextBad (d : Int) (p kv : Value) (w : World) (hd : dirB d = false) : Calls Try.prog 21 #[p, .int .i64 d, kv] w fun e w' => e = .returned (.tuple #[str [], .int .i64 1]) ∧ w' = w := by
  have VD := validDir_c d w
  rw [hd] at VD
  go_enter Try.func21, Try.ntmps21
  go_wp2_with fail
  refine VD.mono ?_
  rintro e w1 ⟨rfl, rfl⟩
  go_wp2_with fail
  go_ret2
  exact ⟨rfl, rfl⟩
theorem countW (d : Nat) (h : WW B fp w gs gc N R) (hd : d < 24) (hN : N ≤ 1000000000000) :
    Calls Try.prog 20 #[.pointer (some ⟨gc, 0, none⟩), .int .i64 d] w fun e w' => RetW B fp w gs gc (N + 1) R (.returned (.tuple #[.int .i64 (cntK (R d) : Nat), .int .i64 0])) e w' := by
  have VD := validDir_c d w
  rw [show dirB d = true by simp [dirB]; omega] at VD
  have FC := fetchW d h hd hN
  go_enter Try.func20, Try.ntmps20
  go_wp2_with fail
  refine VD.mono ?_
  rintro e w1 ⟨rfl, rfl⟩
  go_wp2_with fail
  refine FC.mono ?_
  rintro e w2 ⟨i, t, fp', rfl, W2, st2, hdt, TW, cT, cL⟩
  rw [TW.rt.count TW.tv] at cL
  go_wp2_with fail
  go_ret2
  exact ⟨fp', rfl, W2, st2⟩
theorem countBad (d : Int) (p : Value) (w : World) (hd : dirB d = false) : Calls Try.prog 20 #[p, .int .i64 d] w fun e w' => e = .returned (.tuple #[.int .i64 0, .int .i64 1]) ∧ w' = w := by
  have VD := validDir_c d w
  rw [hd] at VD
  go_enter Try.func20, Try.ntmps20
  go_wp2_with fail
  refine VD.mono ?_
  rintro e w1 ⟨rfl, rfl⟩
  go_wp2_with fail
  go_ret2
  exact ⟨rfl, rfl⟩
end
end Go.Proofs.Qxb6500766a
