/- circuitm: False, Not, And, True, Or, Mux, Input. -/
import Derived.Test.Qxb6500772aCb
namespace Go.Proofs.Qxb6500772a
open Go.RowKit Go.Qm
set_option linter.unusedVariables false
set_option linter.unusedSimpArgs false
attribute [local go_sem ↓] Go.wp_at_zero Go.wp_at_succ
/-- A word that lies outside the blocks fp. -/
structure WO (fp : Nat → Prop) (w : World) (v : Value) (l : List Nat) : Prop where
  wd : Wd w v l
  nb : ∀ q, v.ownBlock = some q → ¬ fp q ∧ q < w.heap.size
theorem WO.step {fp fp' : Nat → Prop} {w w' : World} {v : Value} {l : List Nat} (h : WO fp w v l) (s : Stp fp fp' w w') : WO fp' w' v l :=
  ⟨h.wd.fr s.1 h.nb, fun q hq => ⟨fun a => by
      rcases s.2 q a with e | e
      · exact (h.nb q hq).1 e
      · have := (h.nb q hq).2; omega, Nat.lt_of_lt_of_le (h.nb q hq).2 s.1.size⟩⟩
theorem WO.nil (fp : Nat → Prop) (w : World) : WO fp w (.slice none 0 0) [] := ⟨⟨none, 0, rfl, Nat.le_refl _, by simp [maxLen], fun k u hu => by simp at hu⟩, fun q hq => by simp [Value.ownBlock] at hq⟩
/-- The circuit with the gates G; the words of its gates lie outside X. -/
def CC (B : Nat) (X : Nat → Prop) (w : World) (gc : Nat) (gv : Value) (G : List Gate) (n : Nat) : Prop := ∃ R, CW B w gc gv R n ∧ R.map (·.1) = G ∧ ∀ r ∈ R, ∀ q, (r.2.1.ownBlock = some q ∨ r.2.2.ownBlock = some q) → ¬ X q
theorem CC.keep {B gc n : Nat} {X : Nat → Prop} {w w' : World} {gv : Value} {G : List Gate} (h : CC B X w gc gv G n) (k : Keep w w') : CC B X w' gc gv G n := by
  obtain ⟨R, h, e⟩ := h
  exact ⟨R, h.keep k, e⟩
theorem CC.weak {B gc n : Nat} {X Y : Nat → Prop} {w : World} {gv : Value} {G : List Gate} (h : CC B X w gc gv G n) (hy : ∀ q, Y q → X q) : CC B Y w gc gv G n := by
  obtain ⟨R, h, e, k⟩ := h
  exact ⟨R, h, e, fun r hr q hq a => k r hr q hq (hy q a)⟩
/-- The blocks that are still to come are outside, too. -/
def upX (X : Nat → Prop) (w : World) (q : Nat) : Prop := X q ∨ w.heap.size ≤ q
theorem CC.top {B gc n : Nat} {X : Nat → Prop} {w : World} {gv : Value} {G : List Gate} (h : CC B X w gc gv G n) : CC B (upX X w) w gc gv G n := by
  obtain ⟨R, h, e, k⟩ := h
  exact ⟨R, h, e, fun r hr q hq a => by
    rcases a with a | a
    · exact k r hr q hq a
    · rcases hq with b | b
      · have := ((h.row r hr).nx q b).2; omega
      · have := ((h.row r hr).ny q b).2; omega⟩
/-- A block that is none of the circuit's is written. -/
theorem CC.fr {B gc n : Nat} {X : Nat → Prop} {w w' : World} {gv : Value} {G : List Gate} {P : Nat → Prop} (h : CC B X w gc gv G n) (k : Fr P w w') (hp : ∀ q, P q → ¬ fpC gc gv q ∧ X q) : CC B X w' gc gv G n := by
  obtain ⟨R, h, e, hM⟩ := h
  refine ⟨R, ⟨k.arr (fun a => (hp gc a).1 (Or.inl rfl)) h.arr, h.own.fr k (fun q hq a => (hp q a).1 (Or.inr hq)), fun r hr => ?_, h.nov, h.lo⟩, e, hM⟩
  have x := h.row r hr
  exact ⟨x.x.fr k (fun q hq => ⟨fun a => hM r hr q (Or.inl hq) (hp q a).2, (x.nx q hq).2⟩), x.y.fr k (fun q hq => ⟨fun a => hM r hr q (Or.inr hq) (hp q a).2, (x.ny q hq).2⟩), fun q hq => ⟨(x.nx q hq).1, Nat.lt_of_lt_of_le (x.nx q hq).2 k.size⟩, fun q hq => ⟨(x.ny q hq).1, Nat.lt_of_lt_of_le (x.ny q hq).2 k.size⟩⟩
/-- What a call that adds gates leaves. -/
def RetG (B : Nat) (X : Nat → Prop) (gc : Nat) (gv : Value) (w : World) (G : List Gate) (n : Nat) (r e : Ending) (w' : World) : Prop := ∃ gv', e = r ∧ CC B X w' gc gv' G n ∧ Stp (fpC gc gv) (fpC gc gv') w w'
theorem addG_c {B gc n : Nat} {X : Nat → Prop} {gv : Value} {G : List Gate} {w : World} (h : CC B X w gc gv G n) (g : Gate) (xv yv : Value) (hx : WO (fpC gc gv) w xv g.x) (hy : WO (fpC gc gv) w yv g.y) (hm : ∀ q, (xv.ownBlock = some q ∨ yv.ownBlock = some q) → ¬ X q) (hl : G.length ≤ 1000000000) :
    Calls Try.prog 74 #[.pointer (some ⟨gc, 0, none⟩), .agg #[.int .i64 (g.k : Nat), .int .i64 (g.a : Nat), .int .i64 (g.b : Nat), .int .i64 (g.op : Nat), xv, yv]] w fun e w' => RetG B X gc gv w (G ++ [g]) n (.returned (.int .i64 (G.length : Nat))) e w' := by
  obtain ⟨R, h, rfl, hM⟩ := h
  rw [List.length_map] at hl
  refine (add_c h g xv yv ⟨hx.wd, hy.wd, hx.nb, hy.nb⟩ hl).mono ?_
  rintro e w' ⟨gv', rfl, c, s⟩
  refine ⟨gv', by rw [List.length_map], ⟨_, c, by rw [List.map_append]; rfl, fun r hr => ?_⟩, s⟩
  rcases List.mem_append.1 hr with a | a
  · exact hM r a
  · rw [List.mem_singleton.1 a]; exact hm
theorem nilm {X : Nat → Prop} : ∀ q, ((Value.slice none 0 0).ownBlock = some q ∨ (Value.slice none 0 0).ownBlock = some q) → ¬ X q := fun q hq => by
  rcases hq with a | a <;> simp [Value.ownBlock] at a
def gNot (a : Nat) : Gate := ⟨2, a, 0, 0, [], []⟩
def gAnd (a b : Nat) : Gate := ⟨3, a, b, 0, [], []⟩
def gIn (a : Nat) : Gate := ⟨1, a, 0, 0, [], []⟩
theorem false_c (gc : Nat) (w : World) : Calls Try.prog 75 #[.pointer (some ⟨gc, 0, none⟩)] w fun e w' => e = .returned (.int .i64 0) ∧ w' = w := by
  go_enter Try.func75, Try.ntmps75
  go_wp2
  go_ret
  exact ⟨rfl, rfl⟩
section
variable {B gc n : Nat} {X : Nat → Prop} {gv : Value} {G : List Gate} {w : World}
theorem not_c (h : CC B X w gc gv G n) (a : Nat) (hl : G.length ≤ 1000000000) : Calls Try.prog 70 #[.pointer (some ⟨gc, 0, none⟩), .int .i64 (a : Nat)] w fun e w' => RetG B X gc gv w (G ++ [gNot a]) n (.returned (.int .i64 (G.length : Nat))) e w' := by
  have AC := addG_c h (gNot a) _ _ (WO.nil _ w) (WO.nil _ w) nilm hl
  go_enter Try.func70, Try.ntmps70
  go_wp2_with fail
  refine AC.mono ?_
  rintro e w1 ⟨gv', rfl, c, s⟩
  go_wp2_with fail
  go_ret
  exact ⟨gv', rfl, c, s⟩
theorem and_c (h : CC B X w gc gv G n) (a b : Nat) (hl : G.length ≤ 1000000000) : Calls Try.prog 31 #[.pointer (some ⟨gc, 0, none⟩), .int .i64 (a : Nat), .int .i64 (b : Nat)] w fun e w' => RetG B X gc gv w (G ++ [gAnd a b]) n (.returned (.int .i64 (G.length : Nat))) e w' := by
  have AC := addG_c h (gAnd a b) _ _ (WO.nil _ w) (WO.nil _ w) nilm hl
  go_enter Try.func31, Try.ntmps31
  go_wp2_with fail
  refine AC.mono ?_
  rintro e w1 ⟨gv', rfl, c, s⟩
  go_wp2_with fail
  go_ret
  exact ⟨gv', rfl, c, s⟩
theorem true_c (h : CC B X w gc gv G n) (hl : G.length ≤ 1000000000) : Calls Try.prog 72 #[.pointer (some ⟨gc, 0, none⟩)] w fun e w' => RetG B X gc gv w (G ++ [gNot 0]) n (.returned (.int .i64 (G.length : Nat))) e w' := by
  have AC := not_c h 0 hl
  go_enter Try.func72, Try.ntmps72
  go_wp2_with fail
  refine AC.mono ?_
  rintro e w1 ⟨gv', rfl, c, s⟩
  go_wp2_with fail
  go_ret
  exact ⟨gv', rfl, c, s⟩
/-- Or: the gates it adds. -/
def orG (m a b : Nat) : List Gate := [gNot a, gNot b, gAnd m (m + 1), gNot (m + 2)]
theorem or_c (h : CC B X w gc gv G n) (a b : Nat) (hl : G.length ≤ 900000000) : Calls Try.prog 93 #[.pointer (some ⟨gc, 0, none⟩), .int .i64 (a : Nat), .int .i64 (b : Nat)] w fun e w' => RetG B X gc gv w (G ++ orG G.length a b) n (.returned (.int .i64 ((G.length + 3 : Nat) : Int))) e w' := by
  have N1 := not_c h a (by omega)
  have HL : Hid (G.length ≤ 900000000) := Hid.mk hl
  clear hl
  go_enter Try.func93, Try.ntmps93
  go_wp2_with fail
  refine N1.mono ?_
  rintro e w1 ⟨g1, rfl, c1, s1⟩
  have N2 := not_c c1 b (by have := HL.out; simp; omega)
  rw [List.length_append, List.length_singleton] at N2
  go_wp2_with fail
  refine N2.mono ?_
  rintro e w2 ⟨g2, rfl, c2, s2⟩
  have N3 := and_c c2 G.length (G.length + 1) (by have := HL.out; simp; omega)
  simp only [List.length_append, List.length_singleton] at N3
  go_wp2_with fail
  refine N3.mono ?_
  rintro e w3 ⟨g3, rfl, c3, s3⟩
  have N4 := not_c c3 (G.length + 1 + 1) (by have := HL.out; simp; omega)
  simp only [List.length_append, List.length_singleton] at N4
  go_wp2_with fail
  refine N4.mono ?_
  rintro e w4 ⟨g4, rfl, c4, s4⟩
  go_wp2_with fail
  go_ret
  refine ⟨g4, rfl, ?_, ((s1.trans s2).trans s3).trans s4⟩
  simpa [orG, List.append_assoc] using c4
end
end Go.Proofs.Qxb6500772a
