/- corem: what checkStmts answers (plain). -/
import Derived.Test.Qxb6500772aTe
namespace Go.Proofs.Qxb6500772a
open Go.RowKit Go.Qm
set_option linter.unusedVariables false
set_option linter.unusedSimpArgs false
def celW (cs : List Cel) (c : Int) : Int := (cs.getD c.toNat ⟨0, false, 0, 0, 0⟩).w
def ckSO (cs : List Cel) (f : SF) (ws : List Int) (nt nl tc lc : Nat) : Nat :=
  if f.k = 0 then (if ws.length = 1 then (if nt + nl = 0 then cellsF cs f.c 1 (ws.getD 0 0) true else 2) else 2)
  else if f.k = 1 then (if ws.length = 2 then (if nt + nl = 0 then cellsF cs f.c f.l (ws.getD 1 0) true else 2) else 2)
  else if f.k = 2 then (if ws.length = 1 then (if ws.getD 0 0 = 1 then (if tc = 0 then lc else tc) else 2) else 2)
  else if f.k = 3 then
    (if ws.length = 0 then (if nl = 0 then
      (if f.c < 0 ∨ (cs.length : Int) ≤ f.c then 1 else if cellsF cs f.c 1 (celW cs f.c) true = 0 then
        (if fitS f.a (celW cs f.c).toNat = true then (if fitS f.b (celW cs f.c).toNat = true then tc else 2) else 2)
      else cellsF cs f.c 1 (celW cs f.c) true) else 2) else 2)
  else if f.k = 4 then (if ws.length = 1 then (if nt + nl = 0 then (if ws.getD 0 0 = 1 then cellsF cs f.c 2 1 true else 2) else 2) else 2)
  else if f.k = 5 then (if ws.length = 3 then (if nt + nl = 0 then (if ws.getD 0 0 = 1 then (if ws.getD 1 0 = ws.getD 2 0 then blockF cs f.c (ws.getD 1 0) 2 else 2) else 2) else 2) else 2)
  else if f.k = 6 then (if ws.length = 3 then (if nt + nl = 0 then (if ws.getD 0 0 = 1 then (if ws.getD 1 0 = 1 then blockF cs f.c (ws.getD 2 0) 3 else 2) else 2) else 2) else 2)
  else 2
def ckS1 (cs : List Cel) (f : SF) (e0 : Nat) (ws : List Int) (nt nl tc lc : Nat) : Nat := if e0 = 0 then ckSO cs f ws nt nl tc lc else e0
def ckSL (cs : List Cel) : SL → Nat
  | .nil => 0
  | .cons f ex th el r => if ckS1 cs f (ckL cs ex) ex.ws th.len el.len (ckSL cs th) (ckSL cs el) = 0 then ckSL cs r else ckS1 cs f (ckL cs ex) ex.ws th.len el.len (ckSL cs th) (ckSL cs el)
def ckSX (cs : List Cel) (x : SF × EL × SL × SL) : Nat := ckS1 cs x.1 (ckL cs x.2.1) x.2.1.ws x.2.2.1.len x.2.2.2.len (ckSL cs x.2.2.1) (ckSL cs x.2.2.2)
theorem ckSL_first (cs : List Cel) : ∀ t : SL, ckSL cs t = firstNZ (t.toL.map (ckSX cs))
  | .nil => rfl
  | .cons f ex th el r => by rw [ckSL, SL.toL, List.map_cons, firstNZ, ckSL_first cs r]; rfl
section
variable {cs : List Cel} {f : SF} {ws : List Int} {nt nl tc lc : Nat}
theorem ckS_0 (k : f.k = 0) : ckSO cs f ws nt nl tc lc = (if ws.length = 1 then (if nt + nl = 0 then cellsF cs f.c 1 (ws.getD 0 0) true else 2) else 2) := by unfold ckSO; rw [if_pos k]
theorem ckS_1 (k : f.k = 1) : ckSO cs f ws nt nl tc lc = (if ws.length = 2 then (if nt + nl = 0 then cellsF cs f.c f.l (ws.getD 1 0) true else 2) else 2) := by unfold ckSO; rw [if_neg (by rw [k]; decide), if_pos k]
theorem ckS_2 (k : f.k = 2) : ckSO cs f ws nt nl tc lc = (if ws.length = 1 then (if ws.getD 0 0 = 1 then (if tc = 0 then lc else tc) else 2) else 2) := by unfold ckSO; rw [if_neg (by rw [k]; decide), if_neg (by rw [k]; decide), if_pos k]
theorem ckS_3 (k : f.k = 3) : ckSO cs f ws nt nl tc lc = (if ws.length = 0 then (if nl = 0 then
      (if f.c < 0 ∨ (cs.length : Int) ≤ f.c then 1 else if cellsF cs f.c 1 (celW cs f.c) true = 0 then
        (if fitS f.a (celW cs f.c).toNat = true then (if fitS f.b (celW cs f.c).toNat = true then tc else 2) else 2)
      else cellsF cs f.c 1 (celW cs f.c) true) else 2) else 2) := by unfold ckSO; rw [if_neg (by rw [k]; decide), if_neg (by rw [k]; decide), if_neg (by rw [k]; decide), if_pos k]
theorem ckS_4 (k : f.k = 4) : ckSO cs f ws nt nl tc lc = (if ws.length = 1 then (if nt + nl = 0 then (if ws.getD 0 0 = 1 then cellsF cs f.c 2 1 true else 2) else 2) else 2) := by unfold ckSO; rw [if_neg (by rw [k]; decide), if_neg (by rw [k]; decide), if_neg (by rw [k]; decide), if_neg (by rw [k]; decide), if_pos k]
theorem ckS_5 (k : f.k = 5) : ckSO cs f ws nt nl tc lc = (if ws.length = 3 then (if nt + nl = 0 then (if ws.getD 0 0 = 1 then (if ws.getD 1 0 = ws.getD 2 0 then blockF cs f.c (ws.getD 1 0) 2 else 2) else 2) else 2) else 2) := by unfold ckSO; rw [if_neg (by rw [k]; decide), if_neg (by rw [k]; decide), if_neg (by rw [k]; decide), if_neg (by rw [k]; decide), if_neg (by rw [k]; decide), if_pos k]
theorem ckS_6 (k : f.k = 6) : ckSO cs f ws nt nl tc lc = (if ws.length = 3 then (if nt + nl = 0 then (if ws.getD 0 0 = 1 then (if ws.getD 1 0 = 1 then blockF cs f.c (ws.getD 2 0) 3 else 2) else 2) else 2) else 2) := by unfold ckSO; rw [if_neg (by rw [k]; decide), if_neg (by rw [k]; decide), if_neg (by rw [k]; decide), if_neg (by rw [k]; decide), if_neg (by rw [k]; decide), if_neg (by rw [k]; decide), if_pos k]
theorem ckS_7 (h0 : f.k ≠ 0) (h1 : f.k ≠ 1) (h2 : f.k ≠ 2) (h3 : f.k ≠ 3) (h4 : f.k ≠ 4) (h5 : f.k ≠ 5) (h6 : f.k ≠ 6) : ckSO cs f ws nt nl tc lc = 2 := by unfold ckSO; rw [if_neg h0, if_neg h1, if_neg h2, if_neg h3, if_neg h4, if_neg h5, if_neg h6]
end
theorem SL.len_size : ∀ t : SL, t.len ≤ t.size
  | .nil => Nat.le_refl _
  | .cons f ex th el r => by
    have := SL.len_size r
    simp only [SL.len, SL.toL, List.length_cons, SL.size] at *
    omega
/-- Well typed statements. -/
def wtS1 (ws : List Int) (f : SF) (ks : List Int) (T E : Prop) (nt nl : Nat) : Prop :=
  (f.k = 0 ∧ ∃ a, ks = [a] ∧ wtCells ws f.c 1 a) ∨
  (f.k = 1 ∧ ∃ a b, ks = [a, b] ∧ wtCells ws f.c f.l b) ∨
  (f.k = 2 ∧ ks = [1] ∧ T ∧ E) ∨
  (f.k = 3 ∧ ks = [] ∧ wtCells ws f.c 1 (ws.getD f.c.toNat 0) ∧ T) ∨
  (f.k = 4 ∧ ks = [1] ∧ wtCells ws f.c 2 1) ∨
  (f.k = 5 ∧ ∃ a, ks = [1, a, a] ∧ wtCells ws f.c 1 1 ∧ wtCells ws (f.c + 1) 1 a) ∨
  (f.k = 6 ∧ ∃ a, ks = [1, 1, a] ∧ wtCells ws f.c 1 1 ∧ wtCells ws (f.c + 1) 1 a ∧ wtCells ws (f.c + 2) 1 1)
def wtS (ws : List Int) : SL → Prop
  | .nil => True
  | .cons f ex th el r => wtL ws ex ∧ wtS1 ws f ex.ws (wtS ws th) (wtS ws el) th.len el.len ∧ wtS ws r
theorem blockF_zero {cs : List Cel} {first width n : Int} (h : blockF cs first width n = 0) : wtCells (cs.map (·.w)) first 1 1 ∧ wtCells (cs.map (·.w)) (first + 1) 1 width ∧ (n = 3 → wtCells (cs.map (·.w)) (first + 2) 1 1) := by
  unfold blockF at h
  by_cases h0 : first < 0 ∨ (cs.length : Int) - n < first
  · rw [if_pos h0] at h; simp at h
  rw [if_neg h0] at h
  by_cases h1 : cellsF cs first 1 1 true ≠ 0
  · rw [if_pos h1] at h; exact absurd h h1
  rw [if_neg h1] at h
  by_cases h2 : cellsF cs (first + 1) 1 width true ≠ 0
  · rw [if_pos h2] at h; exact absurd h h2
  rw [if_neg h2] at h
  refine ⟨(cellsF_zero (by simpa using h1)).1, (cellsF_zero (by simpa using h2)).1, fun e => ?_⟩
  rw [if_pos e] at h
  exact (cellsF_zero h).1
theorem celW_ws (cs : List Cel) (c : Int) (h : c.toNat < cs.length) : celW cs c = (cs.map (·.w)).getD c.toNat 0 := by
  simp [celW, List.getD_eq_getElem?_getD, h]
theorem ckSO_wt {cs : List Cel} {f : SF} {ws : List Int} {nt nl tc lc : Nat} {T E : Prop} (h : ckSO cs f ws nt nl tc lc = 0) (hT : tc = 0 → T) (hE : lc = 0 → E) : wtS1 (cs.map (·.w)) f ws T E nt nl := by
  by_cases k0 : f.k = 0
  · rw [ckS_0 k0] at h
    obtain ⟨h1, h⟩ := ite2 h
    obtain ⟨h2, h⟩ := ite2 h
    obtain ⟨a, rfl⟩ : ∃ a, ws = [a] := List.length_eq_one_iff.1 h1
    exact Or.inl ⟨k0, a, rfl, (cellsF_zero h).1⟩
  by_cases k1 : f.k = 1
  · rw [ckS_1 k1] at h
    obtain ⟨h1, h⟩ := ite2 h
    obtain ⟨h2, h⟩ := ite2 h
    obtain ⟨a, b, rfl⟩ : ∃ a b, ws = [a, b] := by
      match ws, h1 with
      | [a, b], _ => exact ⟨a, b, rfl⟩
    exact Or.inr (Or.inl ⟨k1, a, b, rfl, (cellsF_zero h).1⟩)
  by_cases k2 : f.k = 2
  · rw [ckS_2 k2] at h
    obtain ⟨h1, h⟩ := ite2 h
    obtain ⟨h2, h⟩ := ite2 h
    obtain ⟨a, rfl⟩ : ∃ a, ws = [a] := List.length_eq_one_iff.1 h1
    obtain rfl : a = 1 := h2
    by_cases h3 : tc = 0
    · rw [if_pos h3] at h; exact Or.inr (Or.inr (Or.inl ⟨k2, rfl, hT h3, hE h⟩))
    · rw [if_neg h3] at h; exact absurd h h3
  by_cases k3 : f.k = 3
  · rw [ckS_3 k3] at h
    obtain ⟨h1, h⟩ := ite2 h
    obtain ⟨h2, h⟩ := ite2 h
    by_cases h3 : f.c < 0 ∨ (cs.length : Int) ≤ f.c
    · rw [if_pos h3] at h; simp at h
    rw [if_neg h3] at h
    by_cases h4 : cellsF cs f.c 1 (celW cs f.c) true = 0
    · rw [if_pos h4] at h
      obtain ⟨h5, h⟩ := ite2 h
      obtain ⟨h6, h⟩ := ite2 h
      have := (cellsF_zero h4).1
      rw [celW_ws cs f.c (by omega)] at this
      exact Or.inr (Or.inr (Or.inr (Or.inl ⟨k3, List.length_eq_zero_iff.1 h1, this, hT h⟩)))
    · rw [if_neg h4] at h; exact absurd h h4
  by_cases k4 : f.k = 4
  · rw [ckS_4 k4] at h
    obtain ⟨h1, h⟩ := ite2 h
    obtain ⟨h2, h⟩ := ite2 h
    obtain ⟨h3, h⟩ := ite2 h
    obtain ⟨a, rfl⟩ : ∃ a, ws = [a] := List.length_eq_one_iff.1 h1
    obtain rfl : a = 1 := h3
    exact Or.inr (Or.inr (Or.inr (Or.inr (Or.inl ⟨k4, rfl, (cellsF_zero h).1⟩))))
  by_cases k5 : f.k = 5
  · rw [ckS_5 k5] at h
    obtain ⟨h1, h⟩ := ite2 h
    obtain ⟨h2, h⟩ := ite2 h
    obtain ⟨h3, h⟩ := ite2 h
    obtain ⟨h4, h⟩ := ite2 h
    obtain ⟨a, b, c, rfl⟩ : ∃ a b c, ws = [a, b, c] := by
      match ws, h1 with
      | [a, b, c], _ => exact ⟨a, b, c, rfl⟩
    obtain rfl : a = 1 := h3
    obtain rfl : b = c := h4
    exact Or.inr (Or.inr (Or.inr (Or.inr (Or.inr (Or.inl ⟨k5, b, rfl, (blockF_zero h).1, (blockF_zero h).2.1⟩)))))
  by_cases k6 : f.k = 6
  · rw [ckS_6 k6] at h
    obtain ⟨h1, h⟩ := ite2 h
    obtain ⟨h2, h⟩ := ite2 h
    obtain ⟨h3, h⟩ := ite2 h
    obtain ⟨h4, h⟩ := ite2 h
    obtain ⟨a, b, c, rfl⟩ : ∃ a b c, ws = [a, b, c] := by
      match ws, h1 with
      | [a, b, c], _ => exact ⟨a, b, c, rfl⟩
    obtain rfl : a = 1 := h3
    obtain rfl : b = 1 := h4
    exact Or.inr (Or.inr (Or.inr (Or.inr (Or.inr (Or.inr ⟨k6, c, rfl, (blockF_zero h).1, (blockF_zero h).2.1, (blockF_zero h).2.2 rfl⟩)))))
  · rw [ckS_7 k0 k1 k2 k3 k4 k5 k6] at h; simp at h
theorem ckSL_wt {cs : List Cel} : ∀ {t : SL}, ckSL cs t = 0 → wtS (cs.map (·.w)) t
  | .nil, _ => trivial
  | .cons f ex th el r, h => by
    unfold ckSL at h
    by_cases h1 : ckS1 cs f (ckL cs ex) ex.ws th.len el.len (ckSL cs th) (ckSL cs el) = 0
    · rw [if_pos h1] at h
      unfold ckS1 at h1
      by_cases h2 : ckL cs ex = 0
      · rw [if_pos h2] at h1
        exact ⟨ckL_wt h2, ckSO_wt h1 ckSL_wt ckSL_wt, ckSL_wt h⟩
      · rw [if_neg h2] at h1; exact absurd h1 h2
    · rw [if_neg h1] at h; exact absurd h h1
end Go.Proofs.Qxb6500772a
