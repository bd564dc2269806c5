/- The table as a plain list of slots: the probe finds a key or the place for it. No Go in sight. -/
import Derived.Test.Qxb6500766aTa
namespace Go.Proofs.Qxb6500766a
open Go Go.Qm
def sl (ss : List Slot) (i : Nat) : Slot := ss.getD i free
theorem sl_eq {ss : List Slot} {i : Nat} (h : i < ss.length) : sl ss i = ss[i] := by
  unfold sl
  rw [List.getD_eq_getElem?_getD, List.getElem?_eq_getElem h]
  rfl
theorem sl_mem {ss : List Slot} {i : Nat} (h : i < ss.length) : sl ss i ∈ ss := by rw [sl_eq h]; exact List.getElem_mem h
theorem sl_set {ss : List Slot} {j : Nat} (hj : j < ss.length) (x : Slot) (i : Nat) : sl (ss.set j x) i = if j = i then x else sl ss i := by
  unfold sl
  rw [List.getD_eq_getElem?_getD, List.getD_eq_getElem?_getD, List.getElem?_set]
  by_cases h : j = i
  · subst h; rw [if_pos rfl, if_pos rfl, if_pos hj]; rfl
  · rw [if_neg h, if_neg h]
def liveB (s : Slot) : Bool := s.st == 1
def LiveL (ss : List Slot) : List Slot := ss.filter liveB
def deadB (s : Slot) : Bool := s.st == 2
def deadN (ss : List Slot) : Nat := (ss.filter deadB).length
/-- All slots from the hash's own place on, up to i, are in use. -/
def Path (ss : List Slot) (H i : Nat) : Prop := ∃ d, d < ss.length ∧ i = (H + d) % ss.length ∧ ∀ d', d' < d → (sl ss ((H + d') % ss.length)).st ≠ 0
def Match (s : Slot) (key : List UInt8) (H : Int) : Prop := s.st = 1 ∧ s.hash = H ∧ s.key = key
theorem probe_spec (ss : List Slot) (key : List UInt8) (H : Nat) (hst : ∀ s ∈ ss, s.st ≤ 2) : ∀ (f d : Nat) (sp : Option Nat), d + f = ss.length →
    (∀ d', d' < d → (sl ss ((H + d') % ss.length)).st ≠ 0) → (∀ q, sp = some q → q < ss.length ∧ (sl ss q).st ≠ 1 ∧ Path ss H q) → (∃ d0, d ≤ d0 ∧ d0 < ss.length ∧ (sl ss ((H + d0) % ss.length)).st = 0) →
    (∃ i, i < ss.length ∧ probe ss key H f ((H + d) % ss.length) sp = ((i : Int), true) ∧ Match (sl ss i) key H) ∨
    (∃ j df, j < ss.length ∧ probe ss key H f ((H + d) % ss.length) sp = ((j : Int), false) ∧ (sl ss j).st ≠ 1 ∧ Path ss H j ∧ d ≤ df ∧ df < ss.length ∧ (sl ss ((H + df) % ss.length)).st = 0 ∧ ∀ d', d ≤ d' → d' < df → ¬ Match (sl ss ((H + d') % ss.length)) key H)
  | 0, d, sp, hd, hp, hsp, hfr => by
    obtain ⟨d0, h1, h2, h3⟩ := hfr
    omega
  | f + 1, d, sp, hd, hp, hsp, hfr => by
    have hn : 0 < ss.length := by omega
    have hi : (H + d) % ss.length < ss.length := Nat.mod_lt _ hn
    have hnext : ((H + d) % ss.length + 1) % ss.length = (H + (d + 1)) % ss.length := by rw [Nat.mod_add_mod]; rfl
    have hpath : Path ss H ((H + d) % ss.length) := ⟨d, by omega, rfl, hp⟩
    rw [probe]
    change (∃ i, i < ss.length ∧ (if (sl ss ((H + d) % ss.length)).st = 0 then _ else if (sl ss ((H + d) % ss.length)).st = 2 then _ else if (sl ss ((H + d) % ss.length)).hash = (H : Int) ∧ (sl ss ((H + d) % ss.length)).key = key then _ else _) = _ ∧ _) ∨ (∃ j df, j < ss.length ∧ (if (sl ss ((H + d) % ss.length)).st = 0 then _ else if (sl ss ((H + d) % ss.length)).st = 2 then _ else if (sl ss ((H + d) % ss.length)).hash = (H : Int) ∧ (sl ss ((H + d) % ss.length)).key = key then _ else _) = _ ∧ _)
    by_cases e0 : (sl ss ((H + d) % ss.length)).st = 0
    · right
      rw [if_pos e0]
      cases sp with
      | none => exact ⟨_, d, hi, rfl, by omega, hpath, by omega, by omega, e0, by omega⟩
      | some q =>
        obtain ⟨q1, q2, q3⟩ := hsp q rfl
        exact ⟨q, d, q1, rfl, q2, q3, by omega, by omega, e0, by omega⟩
    · rw [if_neg e0]
      have hp' : ∀ d', d' < d + 1 → (sl ss ((H + d') % ss.length)).st ≠ 0 := by
        intro d' hd'
        by_cases h : d' = d
        · subst h; exact e0
        · exact hp d' (by omega)
      have hfr' : ∃ d0, d + 1 ≤ d0 ∧ d0 < ss.length ∧ (sl ss ((H + d0) % ss.length)).st = 0 := by
        obtain ⟨d0, h1, h2, h3⟩ := hfr
        refine ⟨d0, ?_, h2, h3⟩
        rcases Nat.lt_or_ge d d0 with h | h
        · exact h
        · have : d0 = d := by omega
          subst this
          exact absurd h3 e0
      have step : ∀ sp', (∀ q, sp' = some q → q < ss.length ∧ (sl ss q).st ≠ 1 ∧ Path ss H q) → ¬ Match (sl ss ((H + d) % ss.length)) key H →
          (∃ i, i < ss.length ∧ probe ss key H f (((H + d) % ss.length + 1) % ss.length) sp' = ((i : Int), true) ∧ Match (sl ss i) key H) ∨
          (∃ j df, j < ss.length ∧ probe ss key H f (((H + d) % ss.length + 1) % ss.length) sp' = ((j : Int), false) ∧ (sl ss j).st ≠ 1 ∧ Path ss H j ∧ d ≤ df ∧ df < ss.length ∧ (sl ss ((H + df) % ss.length)).st = 0 ∧ ∀ d', d ≤ d' → d' < df → ¬ Match (sl ss ((H + d') % ss.length)) key H) := by
        intro sp' hsp' hno
        rw [hnext]
        rcases probe_spec ss key H hst f (d + 1) sp' (by omega) hp' hsp' hfr' with h | ⟨j, df, h1, h2, h3, h4, h5, h6, h7, h8⟩
        · exact Or.inl h
        · refine Or.inr ⟨j, df, h1, h2, h3, h4, by omega, h6, h7, ?_⟩
          intro d' a b
          by_cases h : d' = d
          · subst h; exact hno
          · exact h8 d' (by omega) b
      by_cases e2 : (sl ss ((H + d) % ss.length)).st = 2
      · rw [if_pos e2]
        refine step _ ?_ (fun h => by have := h.1; omega)
        intro q hq
        cases sp with
        | none => simp only [orI, Option.some.injEq] at hq; subst hq; exact ⟨hi, by omega, hpath⟩
        | some q' => simp only [orI, Option.some.injEq] at hq; subst hq; exact hsp q' rfl
      · rw [if_neg e2]
        have h1 : (sl ss ((H + d) % ss.length)).st = 1 := by have := hst _ (sl_mem hi); omega
        by_cases em : (sl ss ((H + d) % ss.length)).hash = (H : Int) ∧ (sl ss ((H + d) % ss.length)).key = key
        · rw [if_pos em]
          exact Or.inl ⟨_, hi, rfl, h1, em.1, em.2⟩
        · rw [if_neg em]
          exact step sp hsp (fun h => em h.2)
/-- The rules of a table. -/
structure TV (ss : List Slot) : Prop where
  pow : ∃ m, 3 ≤ m ∧ m ≤ 20 ∧ ss.length = 2 ^ m
  st : ∀ s ∈ ss, s.st ≤ 2
  nl : ∀ s ∈ ss, s.st ≠ 1 → s.key = [] ∧ s.lv = .slice none 0 0 ∧ s.es = []
  hh : ∀ s ∈ ss, s.st = 1 → s.hash = hashB s.key
  path : ∀ i, i < ss.length → (sl ss i).st = 1 → Path ss (sl ss i).hash.toNat i
  uniq : ∀ i j, i < ss.length → j < ss.length → (sl ss i).st = 1 → (sl ss j).st = 1 → (sl ss i).key = (sl ss j).key → i = j
  room : 4 * ((LiveL ss).length + deadN ss) ≤ 3 * ss.length
theorem used_le (ss : List Slot) (hst : ∀ s ∈ ss, s.st ≤ 2) : (∀ s ∈ ss, s.st ≠ 0) → (LiveL ss).length + deadN ss = ss.length := by
  induction ss with
  | nil => intro _; rfl
  | cons s l ih =>
    intro h
    have ih' := ih (fun x hx => hst x (by simp [hx])) (fun x hx => h x (by simp [hx]))
    have h1 := hst s (by simp)
    have h2 := h s (by simp)
    unfold LiveL deadN at *
    by_cases hs : s.st = 1
    · simp [liveB, deadB, hs]; omega
    · have hs2 : s.st = 2 := by omega
      simp [liveB, deadB, hs2]; omega
theorem TV.pos {ss : List Slot} (h : TV ss) : 8 ≤ ss.length := by
  obtain ⟨m, h3, h20, e⟩ := h.pow
  have : 2 ^ 3 ≤ 2 ^ m := Nat.pow_le_pow_right (by omega) h3
  omega
theorem TV.free {ss : List Slot} (h : TV ss) (H : Nat) : ∃ d0, d0 < ss.length ∧ (sl ss ((H + d0) % ss.length)).st = 0 := by
  have hp := h.pos
  have hex : ∃ i, i < ss.length ∧ (sl ss i).st = 0 := by
    apply Classical.byContradiction
    intro hc
    have hu := used_le ss h.st (fun s hs => by
      intro e
      obtain ⟨i, hi, rfl⟩ := List.mem_iff_getElem.1 hs
      exact hc ⟨i, hi, by rw [sl_eq hi]; exact e⟩)
    have := h.room
    omega
  obtain ⟨i, hi, e⟩ := hex
  have hm : H % ss.length < ss.length := Nat.mod_lt _ (by omega)
  refine ⟨(i + (ss.length - H % ss.length)) % ss.length, Nat.mod_lt _ (by omega), ?_⟩
  have : (H + (i + (ss.length - H % ss.length)) % ss.length) % ss.length = i := by
    rw [Nat.add_mod_mod]
    have h2 := Nat.div_add_mod H ss.length
    rw [show H + (i + (ss.length - H % ss.length)) = i + ss.length * (H / ss.length + 1) by rw [Nat.mul_add, Nat.mul_one]; omega, Nat.add_mul_mod_self_left, Nat.mod_eq_of_lt hi]
  rw [this]
  exact e
/-- What find answers. -/
theorem find_spec {ss : List Slot} (h : TV ss) (key : List UInt8) :
    (∃ i, i < ss.length ∧ findF ss key (hashB key) = ((i : Int), true) ∧ (sl ss i).st = 1 ∧ (sl ss i).key = key) ∨
    (∃ j, j < ss.length ∧ findF ss key (hashB key) = ((j : Int), false) ∧ (sl ss j).st ≠ 1 ∧ Path ss (hashB key).toNat j ∧ ∀ i, i < ss.length → (sl ss i).st = 1 → (sl ss i).key ≠ key) := by
  have hl := hashB_lt key
  obtain ⟨H, hH⟩ : ∃ H : Nat, hashB key = (H : Int) := ⟨(hashB key).toNat, by omega⟩
  obtain ⟨d0, hd0, hfr⟩ := h.free H
  have hp := h.pos
  have e : findF ss key (hashB key) = probe ss key H ss.length ((H + 0) % ss.length) none := by rw [findF, hH]; rfl
  rcases probe_spec ss key H h.st ss.length 0 none (by omega) (by omega) (by simp) ⟨d0, by omega, hd0, hfr⟩ with ⟨i, h1, h2, h3⟩ | ⟨j, df, h1, h2, h3, h4, h5, h6, h7, h8⟩
  · exact Or.inl ⟨i, h1, by rw [e, h2], h3.1, h3.2.2⟩
  · refine Or.inr ⟨j, h1, by rw [e, h2], h3, by rw [hH]; exact h4, ?_⟩
    intro i hi hs hk
    obtain ⟨d, hd, hid, hpd⟩ := h.path i hi hs
    have hhash : (sl ss i).hash = (H : Int) := by rw [h.hh _ (sl_mem hi) hs, hk, hH]
    rw [hhash, Int.toNat_natCast] at hid hpd
    rcases Nat.lt_trichotomy d df with hlt | heq | hgt
    · exact h8 d (by omega) hlt (by rw [← hid]; exact ⟨hs, hhash, hk⟩)
    · subst heq
      rw [← hid] at h7
      omega
    · exact hpd df hgt h7
end Go.Proofs.Qxb6500766a
