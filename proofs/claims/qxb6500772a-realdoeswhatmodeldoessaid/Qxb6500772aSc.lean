/- blast: what States reads back (plain). -/
import Derived.Test.Qxb6500772aLb
namespace Go.Proofs.Qxb6500772a
set_option linter.unusedVariables false
set_option linter.unusedSimpArgs false
/-- A state with the bit of a pin set. -/
def rdS (S : PS) (p : PinV) : PS := if p.2.1 = -1 then ⟨S.cells, true⟩ else ⟨S.cells.set p.2.1.toNat (S.at p.2.1.toNat ||| 2 ^ p.2.2), S.fault⟩
/-- One pin, for the state r. -/
def rdQ (r : Nat) (f : PinV → Bool) (S : PS) (p : PinV) : PS := if f p = true ∧ p.1 = r then rdS S p else S
def zPS (N : Nat) : PS := ⟨List.replicate N 0, false⟩
def rd1 (N r : Nat) (f : PinV → Bool) (pl : List PinV) : PS := pl.foldl (rdQ r f) (zPS N)
theorem rd1_nil (N r : Nat) (f : PinV → Bool) : rd1 N r f [] = zPS N := rfl
theorem rd1_snoc (N r : Nat) (f : PinV → Bool) (pl : List PinV) (p : PinV) : rd1 N r f (pl ++ [p]) = rdQ r f (rd1 N r f pl) p := by simp [rd1, List.foldl_append]
theorem rdS_len (S : PS) (p : PinV) : (rdS S p).cells.length = S.cells.length := by unfold rdS; split <;> simp
theorem rdQ_len (r : Nat) (f : PinV → Bool) (S : PS) (p : PinV) : (rdQ r f S p).cells.length = S.cells.length := by unfold rdQ; split <;> simp [rdS_len]
theorem rdF_len (r : Nat) (f : PinV → Bool) : ∀ (pl : List PinV) (S : PS), (pl.foldl (rdQ r f) S).cells.length = S.cells.length
  | [], S => rfl
  | p :: pl, S => by rw [List.foldl_cons, rdF_len r f pl, rdQ_len]
theorem rd1_len (N r : Nat) (f : PinV → Bool) (pl : List PinV) : (rd1 N r f pl).cells.length = N := by rw [rd1, rdF_len]; simp [zPS]
theorem at_set (S : PS) (c i x : Nat) (b : Bool) (hc : c < S.cells.length) : (PS.mk (S.cells.set c x) b).at i = if i = c then x else S.at i := by
  simp only [PS.at, List.getD_eq_getElem?_getD, List.getElem?_set]
  by_cases h : c = i
  · subst h; simp [hc]
  · rw [if_neg h, if_neg (fun e => h e.symm)]
theorem rdQ_bit {N r : Nat} (f : PinV → Bool) {S : PS} {p : PinV} (hp : PinOK N p) (hS : S.cells.length = N) {c : Nat} (hc : c < N) (b : Nat) : (((rdQ r f S p).at c).testBit b = true) ↔ ((S.at c).testBit b = true ∨ (p = (r, (c : Int), b) ∧ f p = true)) := by
  obtain ⟨hr, hcb⟩ := hp
  obtain ⟨p1, p2, p3⟩ := p
  simp only at hr hcb
  unfold rdQ
  by_cases hf : f (p1, p2, p3) = true ∧ p1 = r
  · rw [if_pos hf]
    unfold rdS
    rcases hcb with e | ⟨c', e, hcN, hb⟩
    · rw [if_pos e]
      constructor
      · intro h; exact Or.inl h
      · rintro (h | ⟨h, -⟩)
        · exact h
        · simp only [Prod.mk.injEq] at h; omega
    · subst e
      have hn : ¬ ((c' : Int) = -1) := by omega
      simp only [hn, if_false, Int.toNat_natCast]
      rw [at_set _ _ _ _ _ (by omega)]
      by_cases hcc : c = c'
      · subst hcc
        rw [if_pos rfl, Nat.testBit_or, Bool.or_eq_true, Nat.testBit_two_pow]
        simp only [decide_eq_true_eq, Prod.mk.injEq]
        constructor
        · rintro (h | h)
          · exact Or.inl h
          · exact Or.inr ⟨⟨hf.2, trivial, h⟩, hf.1⟩
        · rintro (h | ⟨⟨_, _, h⟩, _⟩)
          · exact Or.inl h
          · exact Or.inr h
      · rw [if_neg hcc]
        constructor
        · intro h; exact Or.inl h
        · rintro (h | ⟨h, -⟩)
          · exact h
          · simp only [Prod.mk.injEq] at h; omega
  · rw [if_neg hf]
    constructor
    · intro h; exact Or.inl h
    · rintro (h | ⟨h, h2⟩)
      · exact h
      · simp only [Prod.mk.injEq] at h
        exact absurd ⟨h2, h.1⟩ hf
theorem rdQ_flt {r : Nat} (f : PinV → Bool) {S : PS} {p : PinV} : ((rdQ r f S p).fault = true) ↔ (S.fault = true ∨ (p.1 = r ∧ p.2.1 = -1 ∧ f p = true)) := by
  unfold rdQ
  by_cases hf : f p = true ∧ p.1 = r
  · rw [if_pos hf]
    unfold rdS
    by_cases e : p.2.1 = -1
    · rw [if_pos e]; simp [hf, e]
    · rw [if_neg e]; simp [e]
  · rw [if_neg hf]
    constructor
    · intro h; exact Or.inl h
    · rintro (h | ⟨h, -, h2⟩)
      · exact h
      · exact absurd ⟨h2, h⟩ hf
theorem rdF_bit {N r : Nat} (f : PinV → Bool) : ∀ (pl : List PinV) (S : PS), (∀ p ∈ pl, PinOK N p) → S.cells.length = N → ∀ c < N, ∀ b, (((pl.foldl (rdQ r f) S).at c).testBit b = true) ↔ ((S.at c).testBit b = true ∨ ((r, (c : Int), b) ∈ pl ∧ f (r, (c : Int), b) = true))
  | [], S, _, _, c, _, b => by simp
  | p :: pl, S, hp, hS, c, hc, b => by
    rw [List.foldl_cons, rdF_bit f pl _ (fun q hq => hp q (List.mem_cons_of_mem _ hq)) (by rw [rdQ_len, hS]) c hc b, rdQ_bit f (hp p List.mem_cons_self) hS hc b, List.mem_cons]
    constructor
    · rintro ((h | ⟨h, h2⟩) | ⟨h, h2⟩)
      · exact Or.inl h
      · subst h; exact Or.inr ⟨Or.inl rfl, h2⟩
      · exact Or.inr ⟨Or.inr h, h2⟩
    · rintro (h | ⟨h | h, h2⟩)
      · exact Or.inl (Or.inl h)
      · subst h; exact Or.inl (Or.inr ⟨rfl, h2⟩)
      · exact Or.inr ⟨h, h2⟩
theorem rdF_flt {r : Nat} (f : PinV → Bool) : ∀ (pl : List PinV) (S : PS), ((pl.foldl (rdQ r f) S).fault = true) ↔ (S.fault = true ∨ ∃ p ∈ pl, p.1 = r ∧ p.2.1 = -1 ∧ f p = true)
  | [], S => by simp
  | p :: pl, S => by
    rw [List.foldl_cons, rdF_flt f pl, rdQ_flt]
    simp only [List.mem_cons, exists_eq_or_imp]
    exact or_assoc
theorem rd1_lt {N r : Nat} (f : PinV → Bool) (pl : List PinV) (hp : ∀ p ∈ pl, PinOK N p) {c : Nat} (hc : c < N) : (rd1 N r f pl).at c < 2 ^ 64 := by
  apply Nat.lt_pow_two_of_testBit
  intro i hi
  cases hb : ((rd1 N r f pl).at c).testBit i with
  | false => rfl
  | true =>
    rcases (rdF_bit f pl (zPS N) hp (by simp [zPS]) c hc i).1 hb with h | ⟨h, -⟩
    · have hz : ((zPS N).at c).testBit i = false := by simp [zPS, PS.at, List.getD_eq_getElem?_getD, hc]
      rw [hz] at h; cases h
    · rcases (hp _ h).2 with e | ⟨c', e, h1, h2⟩
      · have e' : (c : Int) = -1 := e
        omega
      · have h2' : i < 64 := h2
        omega
theorem mem_pinC {role r i w : Nat} {c : Int} {b : Nat} : (r, c, b) ∈ pinC role i w ↔ r = role ∧ c = (i : Int) ∧ b < w := by
  unfold pinC
  rw [List.mem_map]
  constructor
  · rintro ⟨b', hb, e⟩
    simp only [Prod.mk.injEq] at e
    obtain ⟨e1, e2, e3⟩ := e
    subst e3
    exact ⟨e1.symm, e2.symm, List.mem_range.1 hb⟩
  · rintro ⟨rfl, rfl, h⟩
    exact ⟨b, List.mem_range.2 h, rfl⟩
theorem mem_pinL {role r : Nat} {ws : List Int} {c b : Nat} : (r, (c : Int), b) ∈ pinL role ws ↔ r = role ∧ c < ws.length ∧ b < (ws.getD c 0).toNat := by
  unfold pinL pinK
  rw [List.mem_append, List.mem_flatMap]
  constructor
  · rintro (⟨i, hi, h⟩ | h)
    · obtain ⟨h1, h2, h3⟩ := mem_pinC.1 h
      have : c = i := by omega
      subst this
      exact ⟨h1, List.mem_range.1 hi, h3⟩
    · rw [List.mem_singleton] at h
      simp only [Prod.mk.injEq] at h
      omega
  · rintro ⟨rfl, h1, h2⟩
    exact Or.inl ⟨c, List.mem_range.2 h1, mem_pinC.2 ⟨rfl, rfl, h2⟩⟩
theorem flt_pinL {role : Nat} {ws : List Int} {p : PinV} (h : p ∈ pinL role ws) : p.1 = role ∧ (p.2.1 = -1 → p = (role, -1, 0)) := by
  unfold pinL pinK at h
  rcases List.mem_append.1 h with h | h
  · obtain ⟨i, hi, h⟩ := List.mem_flatMap.1 h
    obtain ⟨p1, p2, p3⟩ := p
    obtain ⟨h1, h2, h3⟩ := mem_pinC.1 h
    refine ⟨h1, fun e => ?_⟩
    simp only at e
    omega
  · rw [List.mem_singleton.1 h]
    exact ⟨rfl, fun _ => rfl⟩
theorem rd_cur {ws wn : List Int} {cur next : PS} {N : Nat} (hc : StOK ws cur) (h1 : ws.length = N) (hp : ∀ p ∈ pinAll ws wn, PinOK N p) : rd1 N 0 (pinB cur next) (pinAll ws wn) = cur := by
  refine ps_ext (by rw [rd1_len, hc.1, h1]) (fun i hi => ?_) ?_
  · rw [rd1_len] at hi
    apply Nat.eq_of_testBit_eq
    intro b
    rw [Bool.eq_iff_iff, rd1, rdF_bit _ _ _ hp (by simp [zPS]) i hi b]
    have hz : ((zPS N).at i).testBit b = false := by simp [zPS, PS.at, List.getD_eq_getElem?_getD, hi]
    have hn : ¬ ((i : Int) = -1) := by omega
    have hb : pinB cur next (0, (i : Int), b) = (cur.at i).testBit b := by simp [pinB, hn]
    rw [hz, hb, pinAll, List.mem_append, mem_pinL, mem_pinL]
    constructor
    · rintro (h | ⟨-, h⟩)
      · cases h
      · exact h
    · intro h
      refine Or.inr ⟨Or.inl ⟨rfl, by omega, ?_⟩, h⟩
      by_cases hlt : b < (ws.getD i 0).toNat
      · exact hlt
      · have h2 := hc.2 i (by omega)
        rw [show cur.cells.getD i 0 = cur.at i from rfl] at h2
        rw [Nat.testBit_lt_two_pow (Nat.lt_of_lt_of_le h2 (Nat.pow_le_pow_right (by decide) (by omega)))] at h
        cases h
  · rw [Bool.eq_iff_iff, rd1, rdF_flt]
    constructor
    · rintro (h | ⟨p, hp', e1, e2, h⟩)
      · cases h
      · rcases List.mem_append.1 hp' with a | a
        · have := (flt_pinL a).2 e2
          subst this
          simpa [pinB] using h
        · have := (flt_pinL a).1
          omega
    · intro h
      refine Or.inr ⟨(0, -1, 0), List.mem_append.2 (Or.inl (by simp [pinL])), rfl, rfl, by simpa [pinB] using h⟩
theorem rd_next {ws wn : List Int} {cur next nx : PS} {N : Nat} (hn : StOK wn nx) (h1 : wn.length = N) (hf : nx.fault = next.fault) (ha : ∀ i < wn.length, 0 < (wn.getD i 0).toNat → nx.at i = next.at i) (hp : ∀ p ∈ pinAll ws wn, PinOK N p) : rd1 N 1 (pinB cur next) (pinAll ws wn) = nx := by
  refine ps_ext (by rw [rd1_len, hn.1, h1]) (fun i hi => ?_) ?_
  · rw [rd1_len] at hi
    apply Nat.eq_of_testBit_eq
    intro b
    rw [Bool.eq_iff_iff, rd1, rdF_bit _ _ _ hp (by simp [zPS]) i hi b]
    have hz : ((zPS N).at i).testBit b = false := by simp [zPS, PS.at, List.getD_eq_getElem?_getD, hi]
    have hn' : ¬ ((i : Int) = -1) := by omega
    have hb : pinB cur next (1, (i : Int), b) = (next.at i).testBit b := by simp [pinB, hn']
    rw [hz, hb, pinAll, List.mem_append, mem_pinL, mem_pinL]
    constructor
    · rintro (h | ⟨h2, h⟩)
      · cases h
      · rcases h2 with ⟨h2, -⟩ | ⟨-, -, h2⟩
        · omega
        · rw [ha i (by omega) (by omega)]; exact h
    · intro h
      by_cases hlt : b < (wn.getD i 0).toNat
      · exact Or.inr ⟨Or.inr ⟨rfl, by omega, hlt⟩, by rw [← ha i (by omega) (by omega)]; exact h⟩
      · have h2 := hn.2 i (by omega)
        rw [show nx.cells.getD i 0 = nx.at i from rfl] at h2
        rw [Nat.testBit_lt_two_pow (Nat.lt_of_lt_of_le h2 (Nat.pow_le_pow_right (by decide) (by omega)))] at h
        cases h
  · rw [Bool.eq_iff_iff, rd1, rdF_flt, hf]
    constructor
    · rintro (h | ⟨p, hp', e1, e2, h⟩)
      · cases h
      · rcases List.mem_append.1 hp' with a | a
        · have := (flt_pinL a).1
          omega
        · have := (flt_pinL a).2 e2
          subst this
          simpa [pinB] using h
    · intro h
      refine Or.inr ⟨(1, -1, 0), List.mem_append.2 (Or.inr (by simp [pinL])), rfl, rfl, by simpa [pinB] using h⟩
end Go.Proofs.Qxb6500772a
