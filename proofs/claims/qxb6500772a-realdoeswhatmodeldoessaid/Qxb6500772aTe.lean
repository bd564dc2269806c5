/- corem: what checkExpr answers (plain). -/
import Derived.Test.Qxb6500772aTd
namespace Go.Proofs.Qxb6500772a
open Go.RowKit Go.Qm
set_option linter.unusedVariables false
set_option linter.unusedSimpArgs false
def firstNZ : List Nat → Nat
  | [] => 0
  | a :: l => if a = 0 then firstNZ l else a
def unOK (o a w : Int) : Bool := (decide (o = 0) || decide (o = 1)) && decide (a = w) || ((decide (o = 2) || decide (o = 3)) && decide (a ≤ w) || decide (o = 4) && decide (w ≤ a))
def binOK (o a w : Int) : Bool := if 5 ≤ o ∧ o ≤ 12 then decide (w = a) else if 13 ≤ o ∧ o ≤ 18 then decide (w = 1) else false
def ckOwn (cs : List Cel) (f : EF) (ks : List Int) : Nat :=
  if f.w < 1 ∨ 64 < f.w then 2
  else if f.k = 0 then (if ks = [] then (if f.v < 2 ^ f.w.toNat then 0 else 2) else 2)
  else if f.k = 1 then (if ks = [] then cellsF cs f.c 1 f.w false else 2)
  else if f.k = 2 then (if ks = [] then (if f.w = 1 then 0 else 2) else 2)
  else if f.k = 3 then (if ks.length = 1 then cellsF cs f.c f.l f.w false else 2)
  else if f.k = 4 then (if ks.length = 1 then (if unOK f.o (ks.getD 0 0) f.w = true then 0 else 2) else 2)
  else if f.k = 6 then (if ks.length = 3 then (if ks.getD 0 0 = 1 then (if ks.getD 1 0 = f.w then (if ks.getD 2 0 = f.w then 0 else 2) else 2) else 2) else 2)
  else if f.k = 5 then (if ks.length = 2 then (if ks.getD 0 0 = ks.getD 1 0 then (if binOK f.o (ks.getD 0 0) f.w = true then 0 else 2) else 2) else 2)
  else 2
def ckX' (cs : List Cel) (f : EF) (k : Nat) (ks : List Int) : Nat := if k = 0 then ckOwn cs f ks else k
def ckL (cs : List Cel) : EL → Nat
  | .nil => 0
  | .cons f k r => if ckX' cs f (ckL cs k) k.ws = 0 then ckL cs r else ckX' cs f (ckL cs k) k.ws
def ckX (cs : List Cel) (x : EF × EL) : Nat := ckX' cs x.1 (ckL cs x.2) x.2.ws
theorem ckL_first (cs : List Cel) : ∀ t : EL, ckL cs t = firstNZ (t.toL.map (ckX cs))
  | .nil => rfl
  | .cons f k r => by rw [ckL, EL.toL, List.map_cons, firstNZ, ckL_first cs r]; rfl
theorem cellsG_zero {width : Int} {wr : Bool} : ∀ {l : List Cel}, cellsG width wr l = 0 → ∀ c ∈ l, c.w = width ∧ (wr = true → c.inp = false)
  | [], _, c, hc => by simp at hc
  | d :: r, h, c, hc => by
    unfold cellsG at h
    split at h
    · simp at h
    · split at h
      · simp at h
      · rename_i h1 h2
        rcases List.mem_cons.1 hc with rfl | hc
        · exact ⟨by simpa using h1, fun e => by rw [e] at h2; simpa using h2⟩
        · exact cellsG_zero h c hc
theorem cellsF_zero {cs : List Cel} {first n width : Int} {wr : Bool} (h : cellsF cs first n width wr = 0) : wtCells (cs.map (·.w)) first n width ∧ (wr = true → ∀ i : Nat, (i : Int) < n → ∀ c, cs[first.toNat + i]? = some c → c.inp = false) := by
  unfold cellsF at h
  split at h
  · simp at h
  · rename_i hb
    have hz := cellsG_zero h
    have hget : ∀ i : Nat, (i : Int) < n → ∃ c, cs[first.toNat + i]? = some c ∧ c ∈ (cs.drop first.toNat).take n.toNat := fun i hi => by
      have h1 : first.toNat + i < cs.length := by omega
      refine ⟨cs[first.toNat + i], by simp [h1], ?_⟩
      rw [List.mem_iff_getElem]
      exact ⟨i, by simp; omega, by simp⟩
    refine ⟨⟨by omega, by omega, by simp; omega, fun i hi => ?_⟩, fun e i hi c hc => ?_⟩
    · obtain ⟨c, h1, h2⟩ := hget i hi
      rw [List.getD_eq_getElem?_getD, List.getElem?_map, h1]
      exact (hz c h2).1
    · obtain ⟨c', h1, h2⟩ := hget i hi
      rw [h1] at hc
      rw [← Option.some.inj hc]
      exact (hz c' h2).2 e
theorem ws_len (t : EL) : t.ws.length = t.len := by simp [EL.ws, EL.len]
section
variable {cs : List Cel} {f : EF} {ks : List Int}
theorem ckO_w (h : f.w < 1 ∨ 64 < f.w) : ckOwn cs f ks = 2 := by unfold ckOwn; rw [if_pos h]
theorem ckO_0 (h : ¬ (f.w < 1 ∨ 64 < f.w)) (k : f.k = 0) : ckOwn cs f ks = if ks = [] then (if f.v < 2 ^ f.w.toNat then 0 else 2) else 2 := by unfold ckOwn; rw [if_neg h, if_pos k]
theorem ckO_1 (h : ¬ (f.w < 1 ∨ 64 < f.w)) (k : f.k = 1) : ckOwn cs f ks = if ks = [] then cellsF cs f.c 1 f.w false else 2 := by unfold ckOwn; rw [if_neg h, if_neg (by rw [k]; decide), if_pos k]
theorem ckO_2 (h : ¬ (f.w < 1 ∨ 64 < f.w)) (k : f.k = 2) : ckOwn cs f ks = if ks = [] then (if f.w = 1 then 0 else 2) else 2 := by unfold ckOwn; rw [if_neg h, if_neg (by rw [k]; decide), if_neg (by rw [k]; decide), if_pos k]
theorem ckO_3 (h : ¬ (f.w < 1 ∨ 64 < f.w)) (k : f.k = 3) : ckOwn cs f ks = if ks.length = 1 then cellsF cs f.c f.l f.w false else 2 := by unfold ckOwn; rw [if_neg h, if_neg (by rw [k]; decide), if_neg (by rw [k]; decide), if_neg (by rw [k]; decide), if_pos k]
theorem ckO_4 (h : ¬ (f.w < 1 ∨ 64 < f.w)) (k : f.k = 4) : ckOwn cs f ks = if ks.length = 1 then (if unOK f.o (ks.getD 0 0) f.w = true then 0 else 2) else 2 := by unfold ckOwn; rw [if_neg h, if_neg (by rw [k]; decide), if_neg (by rw [k]; decide), if_neg (by rw [k]; decide), if_neg (by rw [k]; decide), if_pos k]
theorem ckO_6 (h : ¬ (f.w < 1 ∨ 64 < f.w)) (k : f.k = 6) : ckOwn cs f ks = if ks.length = 3 then (if ks.getD 0 0 = 1 then (if ks.getD 1 0 = f.w then (if ks.getD 2 0 = f.w then 0 else 2) else 2) else 2) else 2 := by unfold ckOwn; rw [if_neg h, if_neg (by rw [k]; decide), if_neg (by rw [k]; decide), if_neg (by rw [k]; decide), if_neg (by rw [k]; decide), if_neg (by rw [k]; decide), if_pos k]
theorem ckO_5 (h : ¬ (f.w < 1 ∨ 64 < f.w)) (k : f.k = 5) : ckOwn cs f ks = if ks.length = 2 then (if ks.getD 0 0 = ks.getD 1 0 then (if binOK f.o (ks.getD 0 0) f.w = true then 0 else 2) else 2) else 2 := by unfold ckOwn; rw [if_neg h, if_neg (by rw [k]; decide), if_neg (by rw [k]; decide), if_neg (by rw [k]; decide), if_neg (by rw [k]; decide), if_neg (by rw [k]; decide), if_neg (by rw [k]; decide), if_pos k]
theorem ckO_7 (h : ¬ (f.w < 1 ∨ 64 < f.w)) (h0 : f.k ≠ 0) (h1 : f.k ≠ 1) (h2 : f.k ≠ 2) (h3 : f.k ≠ 3) (h4 : f.k ≠ 4) (h5 : f.k ≠ 5) (h6 : f.k ≠ 6) : ckOwn cs f ks = 2 := by unfold ckOwn; rw [if_neg h, if_neg h0, if_neg h1, if_neg h2, if_neg h3, if_neg h4, if_neg h6, if_neg h5]
end
theorem ite2 {p : Prop} [Decidable p] {n : Nat} (h : (if p then n else 2) = 0) : p ∧ n = 0 := by
  by_cases hp : p
  · rw [if_pos hp] at h; exact ⟨hp, h⟩
  · rw [if_neg hp] at h; simp at h
theorem ckOwn_wt {cs : List Cel} {f : EF} {ks : List Int} (h : ckOwn cs f ks = 0) : wtOne (cs.map (·.w)) f ks := by
  unfold ckOwn at h
  by_cases hw : f.w < 1 ∨ 64 < f.w
  · rw [if_pos hw] at h; simp at h
  rw [if_neg hw] at h
  refine ⟨by omega, ?_⟩
  by_cases k0 : f.k = 0
  · rw [if_pos k0] at h
    obtain ⟨h1, h⟩ := ite2 h
    obtain ⟨h2, h⟩ := ite2 h
    exact Or.inl ⟨k0, h1, h2⟩
  rw [if_neg k0] at h
  by_cases k1 : f.k = 1
  · rw [if_pos k1] at h
    obtain ⟨h1, h⟩ := ite2 h
    exact Or.inr (Or.inl ⟨k1, h1, (cellsF_zero h).1⟩)
  rw [if_neg k1] at h
  by_cases k2 : f.k = 2
  · rw [if_pos k2] at h
    obtain ⟨h1, h⟩ := ite2 h
    obtain ⟨h2, h⟩ := ite2 h
    exact Or.inr (Or.inr (Or.inl ⟨k2, h1, h2⟩))
  rw [if_neg k2] at h
  by_cases k3 : f.k = 3
  · rw [if_pos k3] at h
    obtain ⟨h1, h⟩ := ite2 h
    obtain ⟨a, rfl⟩ : ∃ a, ks = [a] := List.length_eq_one_iff.1 h1
    exact Or.inr (Or.inr (Or.inr (Or.inl ⟨k3, ⟨a, rfl⟩, (cellsF_zero h).1⟩)))
  rw [if_neg k3] at h
  by_cases k4 : f.k = 4
  · rw [if_pos k4] at h
    obtain ⟨h1, h⟩ := ite2 h
    obtain ⟨a, rfl⟩ : ∃ a, ks = [a] := List.length_eq_one_iff.1 h1
    obtain ⟨h2, h⟩ := ite2 h
    refine Or.inr (Or.inr (Or.inr (Or.inr (Or.inl ⟨k4, a, rfl, ?_⟩))))
    simpa only [unOK, List.getD_cons_zero, Bool.or_eq_true, Bool.and_eq_true, decide_eq_true_eq] using h2
  rw [if_neg k4] at h
  by_cases k6 : f.k = 6
  · rw [if_pos k6] at h
    obtain ⟨h1, h⟩ := ite2 h
    obtain ⟨a, b, c, rfl⟩ : ∃ a b c, ks = [a, b, c] := by
      match ks, h1 with
      | [a, b, c], _ => exact ⟨a, b, c, rfl⟩
    obtain ⟨h2, h⟩ := ite2 h
    obtain ⟨h3, h⟩ := ite2 h
    obtain ⟨h4, h⟩ := ite2 h
    refine Or.inr (Or.inr (Or.inr (Or.inr (Or.inr (Or.inr ⟨k6, ?_⟩)))))
    rw [show a = 1 from h2, show b = f.w from h3, show c = f.w from h4]
  rw [if_neg k6] at h
  by_cases k5 : f.k = 5
  · rw [if_pos k5] at h
    obtain ⟨h1, h⟩ := ite2 h
    obtain ⟨a, b, rfl⟩ : ∃ a b, ks = [a, b] := by
      match ks, h1 with
      | [a, b], _ => exact ⟨a, b, rfl⟩
    obtain ⟨h2, h⟩ := ite2 h
    obtain ⟨h3, h⟩ := ite2 h
    obtain rfl : a = b := h2
    refine Or.inr (Or.inr (Or.inr (Or.inr (Or.inr (Or.inl ⟨k5, a, rfl, ?_⟩)))))
    unfold binOK at h3
    by_cases h5 : 5 ≤ f.o ∧ f.o ≤ 12
    · rw [if_pos h5] at h3; exact Or.inl ⟨h5.1, h5.2, of_decide_eq_true h3⟩
    · rw [if_neg h5] at h3
      by_cases h6 : 13 ≤ f.o ∧ f.o ≤ 18
      · rw [if_pos h6] at h3; exact Or.inr ⟨h6.1, h6.2, of_decide_eq_true h3⟩
      · rw [if_neg h6] at h3; simp at h3
  rw [if_neg k5] at h
  simp at h
theorem ckL_wt {cs : List Cel} : ∀ {t : EL}, ckL cs t = 0 → wtL (cs.map (·.w)) t
  | .nil, _ => trivial
  | .cons f k r, h => by
    unfold ckL at h
    split at h
    · rename_i h1
      unfold ckX' at h1
      split at h1
      · rename_i h2
        exact ⟨ckL_wt h2, ckOwn_wt h1, ckL_wt h⟩
      · rename_i h2
        exact absurd h1 h2
    · rename_i h1
      exact absurd h h1
end Go.Proofs.Qxb6500772a
