/- Plain lists: rotation by index; the cycles of the juggling rotation. No Go. -/
import Init
namespace Go.Proofs.Qxb6500771a

/-- Left rotation by s places, by the index. -/
def rl (l : List UInt8) (s : Nat) : List UInt8 := (List.range l.length).map fun i => l.getD ((i + s) % l.length) 0
theorem rl_length (l : List UInt8) (s : Nat) : (rl l s).length = l.length := by simp [rl]
theorem rl_get (l : List UInt8) (s i : Nat) (hi : i < l.length) : (rl l s)[i]? = l[(i + s) % l.length]? := by
  have h : (i + s) % l.length < l.length := Nat.mod_lt _ (by omega)
  simp [rl, hi, List.getD, h]
theorem rl_mod (l : List UInt8) (s : Nat) : rl l (s % l.length) = rl l s := by
  unfold rl
  simp
theorem rl_rl (l : List UInt8) (s t : Nat) : rl (rl l s) t = rl l (s + t) := by
  apply List.ext_getElem?
  intro i
  by_cases hi : i < l.length
  · have h : (i + t) % l.length < l.length := Nat.mod_lt _ (by omega)
    rw [rl_get _ _ _ (by rw [rl_length]; exact hi), rl_length, rl_get _ _ _ h, rl_get _ _ _ hi, Nat.mod_add_mod]
    congr 2
    omega
  · rw [List.getElem?_eq_none (by simp [rl_length]; omega), List.getElem?_eq_none (by simp [rl_length]; omega)]
theorem rl_zero (l : List UInt8) (s : Nat) (h : s % l.length = 0) : rl l s = l := by
  rw [← rl_mod, h]
  apply List.ext_getElem?
  intro i
  by_cases hi : i < l.length
  · rw [rl_get _ _ _ hi, Nat.add_zero, Nat.mod_eq_of_lt hi]
  · rw [List.getElem?_eq_none (by simp [rl_length]; omega), List.getElem?_eq_none (by omega)]

theorem addmod_cancel {a b c n : Nat} (hn : 0 < n) (h : (a + c) % n = (b + c) % n) : a % n = b % n := by
  have h1 : (a + c + (n - c % n)) % n = (b + c + (n - c % n)) % n := by rw [Nat.add_mod, h, ← Nat.add_mod]
  have e : ∀ x, (x + c + (n - c % n)) % n = x % n := fun x => by
    have hc := Nat.mod_add_div c n
    have hl := Nat.mod_lt c hn
    rw [show x + c + (n - c % n) = x + n * (c / n + 1) by rw [Nat.mul_add, Nat.mul_one]; omega, Nat.add_mul_mod_self_left]
  rwa [e, e] at h1

/-- Bezout, with one natural number. -/
theorem bezout_int : ∀ (m n : Nat), ∃ x y : Int, x * m + y * n = (Nat.gcd m n : Nat) := fun m n => by
  induction m, n using Nat.gcd.induction with
  | H0 n => exact ⟨0, 1, by simp⟩
  | H1 m n hm ih =>
    obtain ⟨x, y, h⟩ := ih
    refine ⟨y - x * (n / m : Nat), x, ?_⟩
    rw [Nat.gcd_rec, ← h]
    have e : ((n % m : Nat) : Int) = (n : Int) - (m : Int) * ((n / m : Nat) : Int) := by
      have := Nat.mod_add_div n m
      have h2 : ((n % m : Nat) : Int) + (m : Int) * ((n / m : Nat) : Int) = n := by exact_mod_cast this
      omega
    rw [e, Int.sub_mul, Int.mul_sub, Int.mul_assoc x, Int.mul_comm (((n / m : Nat) : Int)) (m : Int)]
    omega
theorem bezout (n s : Nat) (hn : 0 < n) : ∃ x : Nat, (x * s) % n = Nat.gcd n s % n := by
  obtain ⟨x, y, h⟩ := bezout_int n s
  refine ⟨(y % n).toNat, ?_⟩
  have h0 : (0 : Int) ≤ y % n := Int.emod_nonneg _ (by omega)
  apply Int.ofNat.inj
  show (((y % n).toNat * s % n : Nat) : Int) = ((Nat.gcd n s % n : Nat) : Int)
  rw [Int.natCast_emod, Int.natCast_mul, Int.toNat_of_nonneg h0, Int.natCast_emod, ← h, Int.mul_emod, Int.emod_emod, ← Int.mul_emod, Int.add_comm, Int.add_mul_emod_self_right]

/-- Every place of a residue class is met. -/
theorem met (n s st i : Nat) (hi : i < n) (hst : i % Nat.gcd n s = st) : ∃ j, (st + j * s) % n = i := by
  have hn : 0 < n := by omega
  obtain ⟨x, hx⟩ := bezout n s hn
  refine ⟨x * (i / Nat.gcd n s), ?_⟩
  rw [show x * (i / Nat.gcd n s) * s = (i / Nat.gcd n s) * (x * s) by rw [Nat.mul_comm x, Nat.mul_assoc], Nat.add_mod, Nat.mul_mod, hx, ← Nat.mul_mod, ← Nat.add_mod, ← hst, Nat.mul_comm, Nat.mod_add_div]
  exact Nat.mod_eq_of_lt hi

/-- Behind 'st' whole cycles. -/
def Outer (l : List UInt8) (s st : Nat) (m : List UInt8) : Prop :=
  m.length = l.length ∧ ∀ i, i < l.length → m[i]? = if i % Nat.gcd l.length s < st then l[(i + s) % l.length]? else l[i]?
/-- In cycle 'st', behind k moves. -/
def Cyc (l : List UInt8) (s st k : Nat) (m : List UInt8) : Prop :=
  m.length = l.length ∧ (∀ j, 1 ≤ j → j ≤ k → (st + j * s) % l.length ≠ st) ∧
    ∀ i, i < l.length → ((i % Nat.gcd l.length s < st ∨ ∃ j, j < k ∧ i = (st + j * s) % l.length) → m[i]? = l[(i + s) % l.length]?) ∧ (¬ (i % Nat.gcd l.length s < st ∨ ∃ j, j < k ∧ i = (st + j * s) % l.length) → m[i]? = l[i]?)

theorem Outer.start (l : List UInt8) (s : Nat) : Outer l s 0 l := ⟨rfl, fun i hi => by rw [if_neg (by omega)]⟩
theorem Outer.done {l m : List UInt8} {s st : Nat} (h : Outer l s st m) (hs : Nat.gcd l.length s ≤ st) (hpos : 0 < l.length) : m = rl l s := by
  apply List.ext_getElem?
  intro i
  by_cases hi : i < l.length
  · rw [h.2 i hi, rl_get _ _ _ hi, if_pos]
    exact Nat.lt_of_lt_of_le (Nat.mod_lt _ (Nat.gcd_pos_of_pos_left _ hpos)) hs
  · rw [List.getElem?_eq_none (by rw [h.1]; omega), List.getElem?_eq_none (by rw [rl_length]; omega)]
theorem Outer.cyc {l m : List UInt8} {s st : Nat} (h : Outer l s st m) : Cyc l s st 0 m := by
  refine ⟨h.1, fun j h1 h2 => by omega, fun i hi => ?_⟩
  have := h.2 i hi
  by_cases c : i % Nat.gcd l.length s < st
  · rw [if_pos c] at this
    exact ⟨fun _ => this, fun hn => absurd (Or.inl c) hn⟩
  · rw [if_neg c] at this
    refine ⟨fun hd => ?_, fun _ => this⟩
    rcases hd with hd | ⟨j, hj, _⟩
    · exact absurd hd c
    · omega

theorem residue (n s st j : Nat) (hst : st < Nat.gcd n s) : (st + j * s) % n % Nat.gcd n s = st := by
  rw [Nat.mod_mod_of_dvd _ (Nat.gcd_dvd_left n s), Nat.add_mod, Nat.mod_eq_zero_of_dvd (Nat.dvd_mul_left_of_dvd (Nat.gcd_dvd_right n s) j), Nat.add_zero, Nat.mod_mod, Nat.mod_eq_of_lt hst]

theorem Cyc.lt {l m : List UInt8} {s st k : Nat} (h : Cyc l s st k m) (hst : st < l.length) : k < l.length := by
  rcases Nat.lt_or_ge k l.length with h1 | h1
  · exact h1
  · exact absurd (by rw [Nat.add_mul_mod_self_left, Nat.mod_eq_of_lt hst]) (h.2.1 l.length (by omega) h1)

theorem step_mod (n s st k : Nat) : ((st + k * s) % n + s) % n = (st + (k + 1) * s) % n := by
  rw [Nat.mod_add_mod, Nat.add_assoc, ← Nat.succ_mul]

theorem Cyc.from_old {l m : List UInt8} {s st k : Nat} (h : Cyc l s st k m) (hst : st < Nat.gcd l.length s) (hpos : 0 < l.length) (hne : (st + (k + 1) * s) % l.length ≠ st) :
    m[(st + (k + 1) * s) % l.length]? = l[(st + (k + 1) * s) % l.length]? := by
  have hstn : st < l.length := Nat.lt_of_lt_of_le hst (Nat.gcd_le_left _ hpos)
  refine (h.2.2 _ (Nat.mod_lt _ hpos)).2 ?_
  rintro (hd | ⟨j, hj, he⟩)
  · rw [residue _ _ _ _ hst] at hd; omega
  · have h1 : ((k + 1 - j) * s) % l.length = 0 % l.length := by
      apply addmod_cancel (c := st + j * s) hpos
      rw [Nat.zero_add, ← he]
      congr 1
      have : (k + 1) * s = (k + 1 - j) * s + j * s := by rw [← Nat.add_mul]; congr 1; omega
      omega
    by_cases hj0 : j = 0
    · subst hj0
      have e0 : st + 0 * s = st := by omega
      rw [e0, Nat.mod_eq_of_lt hstn] at he
      exact hne he
    · refine h.2.1 (k + 1 - j) (by omega) (by omega) ?_
      rw [Nat.add_mod, h1, ← Nat.add_mod, Nat.add_zero, Nat.mod_eq_of_lt hstn]

theorem Cyc.next {l m : List UInt8} {s st k : Nat} (h : Cyc l s st k m) (hst : st < Nat.gcd l.length s) (hpos : 0 < l.length) (hne : (st + (k + 1) * s) % l.length ≠ st) {x : UInt8} (hx : m[(st + (k + 1) * s) % l.length]? = some x) :
    Cyc l s st (k + 1) (m.set ((st + k * s) % l.length) x) := by
  refine ⟨by simp [h.1], fun j h1 h2 => ?_, fun i hi => ?_⟩
  · by_cases e : j = k + 1
    · subst e; exact hne
    · exact h.2.1 j h1 (by omega)
  · rw [h.from_old hst hpos hne] at hx
    rw [List.getElem?_set]
    by_cases e : (st + k * s) % l.length = i
    · rw [if_pos e, if_pos (by rw [h.1, e]; exact hi), ← hx]
      refine ⟨fun _ => ?_, fun hn => absurd (Or.inr ⟨k, by omega, e.symm⟩) hn⟩
      rw [← e, step_mod]
    · rw [if_neg e]
      have h2 := h.2.2 i hi
      have e' : (i % Nat.gcd l.length s < st ∨ ∃ j, j < k + 1 ∧ i = (st + j * s) % l.length) ↔ (i % Nat.gcd l.length s < st ∨ ∃ j, j < k ∧ i = (st + j * s) % l.length) := by
        constructor
        · rintro (hd | ⟨j, hj, he⟩)
          · exact Or.inl hd
          · by_cases ejk : j = k
            · subst ejk; exact absurd he.symm e
            · exact Or.inr ⟨j, by omega, he⟩
        · rintro (hd | ⟨j, hj, he⟩)
          · exact Or.inl hd
          · exact Or.inr ⟨j, by omega, he⟩
      exact ⟨fun hd => h2.1 (e'.1 hd), fun hn => h2.2 (fun hd => hn (e'.2 hd))⟩

theorem Cyc.done {l m : List UInt8} {s st k : Nat} (h : Cyc l s st k m) (hst : st < Nat.gcd l.length s) (hpos : 0 < l.length) (he : (st + (k + 1) * s) % l.length = st) {x : UInt8} (hx : l[st]? = some x) :
    Outer l s (st + 1) (m.set ((st + k * s) % l.length) x) := by
  have hstn : st < l.length := Nat.lt_of_lt_of_le hst (Nat.gcd_le_left _ hpos)
  refine ⟨by simp [h.1], fun i hi => ?_⟩
  rw [List.getElem?_set]
  by_cases e : (st + k * s) % l.length = i
  · rw [if_pos e, if_pos (by rw [h.1, e]; exact hi), if_pos, ← e, step_mod, he, hx]
    rw [← e, residue _ _ _ _ hst]; omega
  · rw [if_neg e]
    have h2 := h.2.2 i hi
    by_cases c : i % Nat.gcd l.length s < st + 1
    · rw [if_pos c]
      apply h2.1
      by_cases c1 : i % Nat.gcd l.length s < st
      · exact Or.inl c1
      · right
        obtain ⟨j, hj⟩ := met l.length s st i hi (by omega)
        have hper : ∀ q r, (st + (q * (k + 1) + r) * s) % l.length = (st + r * s) % l.length := fun q r => by
          induction q with
          | zero => rw [Nat.zero_mul, Nat.zero_add]
          | succ q ih =>
            have e1 : st + ((q + 1) * (k + 1) + r) * s = (st + (k + 1) * s) + (q * (k + 1) + r) * s := by
              rw [Nat.succ_mul, show q * (k + 1) + (k + 1) + r = (k + 1) + (q * (k + 1) + r) by omega, Nat.add_mul]; omega
            rw [e1, Nat.add_mod, he, ← Nat.mod_eq_of_lt hstn, ← Nat.add_mod, Nat.mod_eq_of_lt hstn]
            exact ih
        have hlt := Nat.mod_lt j (show 0 < k + 1 by omega)
        have hj' : (st + (j % (k + 1)) * s) % l.length = i := by
          rw [← hj, ← hper (j / (k + 1)) (j % (k + 1)), Nat.mul_comm (j / (k + 1)), Nat.div_add_mod]
        have hne : j % (k + 1) ≠ k := fun ek => e (by rw [← ek]; exact hj')
        exact ⟨j % (k + 1), by omega, hj'.symm⟩
    · rw [if_neg c]
      apply h2.2
      rintro (hd | ⟨j, hj, hej⟩)
      · omega
      · rw [hej, residue _ _ _ _ hst] at c; omega

end Go.Proofs.Qxb6500771a
