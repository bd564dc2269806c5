/- Circuits: the values of gates (plain). -/
import Derived.Test.Qxb6500772aCa
namespace Go.Proofs.Qxb6500772a
set_option linter.unusedVariables false
/-- A word of w bits, read as a two's-complement number. -/
def sgn (v w : Nat) : Int := if v.testBit (w - 1) then (v : Int) - 2 ^ w else v
/-- The word operators on words of w bits. -/
def wop (op x y w : Nat) : Nat :=
  if op = 0 then (x + y) % 2 ^ w
  else if op = 1 then (x + (2 ^ w - y)) % 2 ^ w
  else if op = 2 then (x * y) % 2 ^ w
  else if op = 3 then (if y = 0 then 0 else ((sgn x w).tdiv (sgn y w) % 2 ^ w).toNat)
  else if op = 4 then (if y = 0 then x else ((sgn x w).tmod (sgn y w) % 2 ^ w).toNat)
  else if op = 5 then (if x = y then 1 else 0)
  else if op = 6 then (if sgn x w < sgn y w then 1 else 0)
  else 0
/-- The value of a word: its bits, the lowest first. -/
def wordN (vs : List Nat) : List Nat → Nat
  | [] => 0
  | b :: l => vs.getD b 0 + 2 * wordN vs l
/-- The value of a gate behind the values vs. -/
def gvl (inp : Nat → Bool) (vs : List Nat) (g : Gate) : Nat :=
  if g.k = 1 then (inp g.a).toNat
  else if g.k = 2 then 1 - vs.getD g.a 0
  else if g.k = 3 then vs.getD g.a 0 &&& vs.getD g.b 0
  else if g.k = 4 then wop g.op (wordN vs g.x) (wordN vs g.y) g.x.length
  else if g.k = 5 then vs.getD g.a 0 / 2 ^ g.b % 2
  else 0
def evf (inp : Nat → Bool) (vs : List Nat) (g : Gate) : List Nat := vs ++ [gvl inp vs g]
def ev (G : List Gate) (inp : Nat → Bool) : List Nat := G.foldl (evf inp) []
def val (G : List Gate) (inp : Nat → Bool) (b : Nat) : Nat := (ev G inp).getD b 0
theorem evf_len (inp : Nat → Bool) (G : List Gate) : ∀ vs, (G.foldl (evf inp) vs).length = vs.length + G.length := by
  induction G with
  | nil => intro vs; rfl
  | cons g G ih => intro vs; rw [List.foldl_cons, ih]; simp [evf]; omega
theorem ev_len (G : List Gate) (inp : Nat → Bool) : (ev G inp).length = G.length := by rw [ev, evf_len]; simp
theorem evf_pre (inp : Nat → Bool) (G : List Gate) : ∀ vs, vs <+: G.foldl (evf inp) vs := by
  induction G with
  | nil => intro vs; exact List.prefix_refl _
  | cons g G ih => intro vs; rw [List.foldl_cons]; exact (List.prefix_append _ _).trans (ih _)
theorem getD_pre {l l' : List Nat} (h : l <+: l') {b : Nat} (hb : b < l.length) : l'.getD b 0 = l.getD b 0 := by
  obtain ⟨t, rfl⟩ := h
  rw [List.getD_eq_getElem?_getD, List.getD_eq_getElem?_getD, List.getElem?_append_left hb]
theorem ev_append (G H : List Gate) (inp : Nat → Bool) : ev (G ++ H) inp = H.foldl (evf inp) (ev G inp) := by rw [ev, List.foldl_append]; rfl
theorem ev_pre {G G' : List Gate} (h : G <+: G') (inp : Nat → Bool) : ev G inp <+: ev G' inp := by
  obtain ⟨t, rfl⟩ := h
  rw [ev_append]; exact evf_pre _ _ _
theorem val_ext {G G' : List Gate} (h : G <+: G') (inp : Nat → Bool) {b : Nat} (hb : b < G.length) : val G' inp b = val G inp b := getD_pre (ev_pre h inp) (by rw [ev_len]; exact hb)
theorem val_last (G : List Gate) (g : Gate) (inp : Nat → Bool) : val (G ++ [g]) inp G.length = gvl inp (ev G inp) g := by
  have h : ev (G ++ [g]) inp = ev G inp ++ [gvl inp (ev G inp) g] := by rw [ev_append]; rfl
  rw [val, h, List.getD_eq_getElem?_getD, List.getElem?_append_right (by rw [ev_len]; exact Nat.le_refl _), ev_len]
  simp
/-- The gate b is the Boolean function f of the inputs. -/
def Bt (G : List Gate) (b : Nat) (f : (Nat → Bool) → Bool) : Prop := b < G.length ∧ ∀ inp, val G inp b = (f inp).toNat
theorem Bt.ext {G G' : List Gate} {b : Nat} {f : (Nat → Bool) → Bool} (h : Bt G b f) (k : G <+: G') : Bt G' b f :=
  ⟨Nat.lt_of_lt_of_le h.1 k.length_le, fun inp => by rw [val_ext k inp h.1]; exact h.2 inp⟩
theorem Bt.congr {G : List Gate} {b : Nat} {f g : (Nat → Bool) → Bool} (h : Bt G b f) (e : ∀ inp, f inp = g inp) : Bt G b g := ⟨h.1, fun inp => by rw [h.2, e]⟩
theorem Bt.get {G : List Gate} {b : Nat} {f : (Nat → Bool) → Bool} (h : Bt G b f) (inp : Nat → Bool) : (ev G inp).getD b 0 = (f inp).toNat := h.2 inp
/-- The word l of w bits is the function f of the inputs. -/
structure Wv (G : List Gate) (l : List Nat) (w : Nat) (f : (Nat → Bool) → Nat) : Prop where
  len : l.length = w
  bit : ∀ i (h : i < l.length), Bt G l[i] (fun inp => (f inp).testBit i)
  lt : ∀ inp, f inp < 2 ^ w
theorem Wv.ext {G G' : List Gate} {l : List Nat} {w : Nat} {f : (Nat → Bool) → Nat} (h : Wv G l w f) (k : G <+: G') : Wv G' l w f := ⟨h.len, fun i hi => (h.bit i hi).ext k, h.lt⟩
theorem Wv.congr {G : List Gate} {l : List Nat} {w : Nat} {f g : (Nat → Bool) → Nat} (h : Wv G l w f) (e : ∀ inp, f inp = g inp) : Wv G l w g := by
  have : f = g := funext e
  rw [← this]; exact h
theorem Wv.of {G : List Gate} {l : List Nat} {w : Nat} {f : (Nat → Bool) → Nat} (h1 : l.length = w) (h2 : ∀ i (h : i < l.length), Bt G l[i] (fun inp => (f inp).testBit i)) (h3 : ∀ inp, f inp < 2 ^ w) : Wv G l w f := ⟨h1, h2, h3⟩
theorem wordN_bits (vs : List Nat) : ∀ (l : List Nat) (n : Nat), n < 2 ^ l.length → (∀ i (h : i < l.length), vs.getD l[i] 0 = (n.testBit i).toNat) → wordN vs l = n := by
  intro l
  induction l with
  | nil => intro n hn _; simp at hn; simp [wordN, hn]
  | cons b l ih =>
    intro n hn hb
    have h0 := hb 0 (by simp)
    simp only [List.getElem_cons_zero] at h0
    have hi := ih (n / 2) (by simp only [List.length_cons, Nat.pow_succ] at hn; omega) (fun i h => by
      have := hb (i + 1) (by simp; omega)
      simp only [List.getElem_cons_succ] at this
      rw [this, Nat.testBit_succ])
    rw [wordN, hi, h0, Nat.testBit_zero]
    have := Nat.div_add_mod n 2
    rcases Nat.mod_two_eq_zero_or_one n with e | e <;> simp [e] <;> omega
theorem Wv.word {G : List Gate} {l : List Nat} {w : Nat} {f : (Nat → Bool) → Nat} (h : Wv G l w f) (inp : Nat → Bool) : wordN (ev G inp) l = f inp :=
  wordN_bits _ l _ (by rw [h.len]; exact h.lt inp) (fun i hi => (h.bit i hi).get inp)
/-- The rules of a circuit: what its evaluation leans on. -/
def isBit (G : List Gate) (b : Nat) : Prop := ∃ f, Bt G b f
theorem Bt.is {G : List Gate} {b : Nat} {f : (Nat → Bool) → Bool} (h : Bt G b f) : isBit G b := ⟨f, h⟩
theorem isBit.ext {G G' : List Gate} {b : Nat} (h : isBit G b) (k : G <+: G') : isBit G' b := h.imp fun _ a => a.ext k
structure GOK (G : List Gate) (g : Gate) : Prop where
  k : g.k ≤ 5
  n : g.k = 2 → isBit G g.a
  d : g.k = 3 → isBit G g.a ∧ isBit G g.b
  x : g.k = 4 → ∀ b ∈ g.x, isBit G b
  y : g.k = 4 → ∀ b ∈ g.y, isBit G b
  l : g.k = 4 → g.x.length = g.y.length ∧ 1 ≤ g.x.length ∧ g.x.length ≤ 64 ∧ g.op ≤ 6
  b : g.k = 5 → g.a < G.length ∧ g.b < 64
theorem GOK.ext {G G' : List Gate} {g : Gate} (h : GOK G g) (k : G <+: G') : GOK G' g :=
  ⟨h.k, fun e => (h.n e).ext k, fun e => ⟨(h.d e).1.ext k, (h.d e).2.ext k⟩, fun e b hb => (h.x e b hb).ext k, fun e b hb => (h.y e b hb).ext k, h.l, fun e => ⟨Nat.lt_of_lt_of_le (h.b e).1 k.length_le, (h.b e).2⟩⟩
def WFG (G : List Gate) : Prop := (∀ g ∈ G, GOK G g) ∧ Bt G 0 (fun _ => false)
theorem WFG.add {G : List Gate} {g : Gate} (h : WFG G) (hg : GOK G g) : WFG (G ++ [g]) := by
  refine ⟨fun g' hg' => ?_, h.2.ext (List.prefix_append _ _)⟩
  rcases List.mem_append.1 hg' with a | a
  · exact (h.1 g' a).ext (List.prefix_append _ _)
  · rw [List.mem_singleton.1 a]; exact hg.ext (List.prefix_append _ _)
/-- The circuit grew, by at most k gates. -/
structure Ext (k : Nat) (G G' : List Gate) : Prop where
  pre : G <+: G'
  len : G'.length ≤ G.length + k
  wf : WFG G'
theorem Ext.refl {G : List Gate} (h : WFG G) : Ext 0 G G := ⟨List.prefix_refl _, Nat.le_refl _, h⟩
theorem Ext.trans {j k : Nat} {G H K : List Gate} (h : Ext j G H) (h' : Ext k H K) : Ext (j + k) G K := ⟨h.pre.trans h'.pre, by have := h.len; have := h'.len; omega, h'.wf⟩
theorem Ext.mono {j k : Nat} {G H : List Gate} (h : Ext j G H) (hk : j ≤ k) : Ext k G H := ⟨h.pre, by have := h.len; omega, h.wf⟩
theorem Ext.add {G : List Gate} {g : Gate} (h : WFG G) (hg : GOK G g) : Ext 1 G (G ++ [g]) := ⟨List.prefix_append _ _, by simp, h.add hg⟩
theorem Bt.new {G : List Gate} {g : Gate} {f : (Nat → Bool) → Bool} (h : ∀ inp, gvl inp (ev G inp) g = (f inp).toNat) : Bt (G ++ [g]) G.length f := ⟨by simp, fun inp => by rw [val_last, h]⟩
/-- A word operator: the value of the gate. -/
def Wg (G : List Gate) (m : Nat) (f : (Nat → Bool) → Nat) : Prop := m < G.length ∧ ∀ inp, val G inp m = f inp
theorem Wg.ext {G G' : List Gate} {b : Nat} {f : (Nat → Bool) → Nat} (h : Wg G b f) (k : G <+: G') : Wg G' b f :=
  ⟨Nat.lt_of_lt_of_le h.1 k.length_le, fun inp => by rw [val_ext k inp h.1]; exact h.2 inp⟩
theorem sgn_lo {v w : Nat} (hw : 1 ≤ w) (hv : v < 2 ^ w) : -(2 ^ (w - 1) : Int) ≤ sgn v w ∧ sgn v w < 2 ^ (w - 1) := by
  obtain ⟨u, rfl⟩ : ∃ u, w = u + 1 := ⟨w - 1, by omega⟩
  have hp : (2 : Int) ^ (u + 1) = 2 * 2 ^ u := by rw [Int.pow_succ]; omega
  have hq : 2 ^ (u + 1) = 2 * 2 ^ u := by rw [Nat.pow_succ]; omega
  have hc : ((2 ^ u : Nat) : Int) = (2 : Int) ^ u := by push_cast; rfl
  rw [hq] at hv
  simp only [sgn, Nat.add_sub_cancel]
  have hd : v.testBit u = decide (v / 2 ^ u % 2 = 1) := Nat.testBit_eq_decide_div_mod_eq
  rw [hp, ← hc]
  generalize hn : 2 ^ u = p at *
  have h0 : 0 < p := by rw [← hn]; exact Nat.two_pow_pos u
  rw [hd]
  by_cases h : v < p
  · rw [Nat.div_eq_of_lt h]; simp; omega
  · have : v / p = 1 := by
      rw [Nat.div_eq_iff h0]; omega
    rw [this]; simp; omega
theorem wop_lt {op x y w : Nat} (hw : 1 ≤ w) (hx : x < 2 ^ w) (hop : op ≤ 6) : wop op x y w < 2 ^ w := by
  have h0 : 0 < 2 ^ w := Nat.two_pow_pos w
  have h1 : 1 < 2 ^ w := Nat.one_lt_two_pow (by omega)
  have hm : ∀ z : Int, (z % 2 ^ w).toNat < 2 ^ w := fun z => by
    have hc : ((2 ^ w : Nat) : Int) = (2 : Int) ^ w := by push_cast; rfl
    rw [← hc]
    have h2 := Int.emod_lt_of_pos z (b := ((2 ^ w : Nat) : Int)) (by omega)
    have h3 := Int.emod_nonneg z (b := ((2 ^ w : Nat) : Int)) (by omega)
    omega
  unfold wop
  split
  · exact Nat.mod_lt _ h0
  split
  · exact Nat.mod_lt _ h0
  split
  · exact Nat.mod_lt _ h0
  split
  · split
    · exact h0
    · exact hm _
  split
  · split
    · exact hx
    · exact hm _
  split
  · split <;> omega
  split
  · split <;> omega
  exact h0
end Go.Proofs.Qxb6500772a
