/- The table as a plain list of slots: a slot is set. -/
import Derived.Test.Qxb6500766aTp
namespace Go.Proofs.Qxb6500766a
open Go Go.Qm
theorem split_at {ss : List Slot} {j : Nat} (hj : j < ss.length) : ss = ss.take j ++ sl ss j :: ss.drop (j + 1) := by
  rw [sl_eq hj, ← List.drop_eq_getElem_cons hj, List.take_append_drop]
theorem filt_set (p : Slot → Bool) {ss : List Slot} {j : Nat} (hj : j < ss.length) : ∃ R, (ss.filter p).Perm ((if p (sl ss j) = true then [sl ss j] else []) ++ R) ∧ ∀ x, ((ss.set j x).filter p).Perm ((if p x = true then [x] else []) ++ R) := by
  refine ⟨(ss.take j).filter p ++ (ss.drop (j + 1)).filter p, ?_, ?_⟩
  · conv => lhs; rw [split_at hj]
    rw [List.filter_append, List.filter_cons]
    split
    · exact List.perm_middle
    · exact List.Perm.refl _
  · intro x
    rw [List.set_eq_take_append_cons_drop, if_pos hj, List.filter_append, List.filter_cons]
    split
    · exact List.perm_middle
    · exact List.Perm.refl _
theorem Path.set {ss : List Slot} {H i j : Nat} (h : Path ss H i) (hj : j < ss.length) {x : Slot} (hx : x.st ≠ 0) : Path (ss.set j x) H i := by
  obtain ⟨d, h1, h2, h3⟩ := h
  refine ⟨d, by rw [List.length_set]; exact h1, by rw [List.length_set]; exact h2, ?_⟩
  intro d' hd'
  rw [List.length_set, sl_set hj]
  split
  · exact hx
  · exact h3 d' hd'
theorem TV.set {ss : List Slot} (h : TV ss) {j : Nat} (hj : j < ss.length) {x : Slot} (h2 : x.st ≤ 2) (h0 : x.st ≠ 0) (hnl : x.st ≠ 1 → x.key = [] ∧ x.lv = .slice none 0 0 ∧ x.es = [])
    (hl : x.st = 1 → x.hash = hashB x.key ∧ Path ss x.hash.toNat j ∧ ∀ i, i < ss.length → i ≠ j → (sl ss i).st = 1 → (sl ss i).key ≠ x.key)
    (hroom : 4 * ((LiveL (ss.set j x)).length + deadN (ss.set j x)) ≤ 3 * ss.length) : TV (ss.set j x) := by
  have hmem : ∀ s ∈ ss.set j x, s = x ∨ s ∈ ss := fun s hs => by
    rcases List.mem_or_eq_of_mem_set hs with a | a
    · exact Or.inr a
    · exact Or.inl a
  refine ⟨by rw [List.length_set]; exact h.pow, ?_, ?_, ?_, ?_, ?_, by rw [List.length_set]; exact hroom⟩
  · intro s hs
    rcases hmem s hs with rfl | a
    · exact h2
    · exact h.st s a
  · intro s hs hne
    rcases hmem s hs with rfl | a
    · exact hnl hne
    · exact h.nl s a hne
  · intro s hs he
    rcases hmem s hs with rfl | a
    · exact (hl he).1
    · exact h.hh s a he
  · intro i hi he
    rw [List.length_set] at hi
    rw [sl_set hj] at he ⊢
    by_cases e : j = i
    · subst e
      rw [if_pos rfl] at he ⊢
      exact (hl he).2.1.set hj h0
    · rw [if_neg e] at he ⊢
      exact (h.path i hi he).set hj h0
  · intro i k hi hk hei hek hkey
    rw [List.length_set] at hi hk
    rw [sl_set hj] at hei hek hkey
    rw [sl_set hj] at hkey
    by_cases e : j = i
    · subst e
      by_cases e' : j = k
      · exact e'
      · rw [if_pos rfl] at hei hkey
        rw [if_neg e'] at hek hkey
        exact absurd hkey.symm ((hl hei).2.2 k hk (fun a => e' a.symm) hek)
    · rw [if_neg e] at hei hkey
      by_cases e' : j = k
      · subst e'
        rw [if_pos rfl] at hek hkey
        exact absurd hkey ((hl hek).2.2 i hi (fun a => e a.symm) hei)
      · rw [if_neg e'] at hek hkey
        exact h.uniq i k hi hk hei hek hkey
/-- A key comes into a slot that bears none. -/
theorem TV.put {ss : List Slot} (h : TV ss) {j : Nat} (hj : j < ss.length) (hs : (sl ss j).st ≠ 1) {x : Slot} (h1 : x.st = 1) (hx : x.hash = hashB x.key) (hp : Path ss (hashB x.key).toNat j)
    (hno : ∀ i, i < ss.length → (sl ss i).st = 1 → (sl ss i).key ≠ x.key) (hroom : (sl ss j).st = 0 → 4 * ((LiveL ss).length + deadN ss + 1) ≤ 3 * ss.length) :
    TV (ss.set j x) ∧ (LiveL (ss.set j x)).Perm (x :: LiveL ss) ∧ deadN ss = deadN (ss.set j x) + (if (sl ss j).st = 2 then 1 else 0) := by
  obtain ⟨R, r1, r2⟩ := filt_set liveB hj
  obtain ⟨D, d1, d2⟩ := filt_set deadB hj
  have lb : liveB (sl ss j) = false := by simp [liveB, hs]
  have lx : liveB x = true := by simp [liveB, h1]
  have dx : deadB x = false := by simp [deadB, h1]
  have p1 : (LiveL (ss.set j x)).Perm (x :: LiveL ss) := by
    have a := r2 x
    rw [if_pos lx] at a
    rw [lb] at r1
    exact a.trans (List.Perm.cons x (by simpa [LiveL] using r1.symm))
  have p2 : deadN ss = deadN (ss.set j x) + (if (sl ss j).st = 2 then 1 else 0) := by
    have a := (d2 x).length_eq
    have b := d1.length_eq
    rw [dx] at a
    unfold deadN
    by_cases e : (sl ss j).st = 2
    · have : deadB (sl ss j) = true := by simp [deadB, e]
      rw [this] at b
      rw [if_pos e]
      simp at a b
      omega
    · have : deadB (sl ss j) = false := by simp [deadB, e]
      rw [this] at b
      rw [if_neg e]
      simp at a b
      omega
  refine ⟨h.set hj (by omega) (by omega) (fun a => absurd h1 a) (fun _ => ⟨hx, by rw [hx]; exact hp, fun i hi _ he => hno i hi he⟩) ?_, p1, p2⟩
  have a := p1.length_eq
  rw [List.length_cons] at a
  have hr := h.room
  have hle := h.st _ (sl_mem hj)
  by_cases e : (sl ss j).st = 2
  · rw [if_pos e] at p2; omega
  · rw [if_neg e] at p2
    have := hroom (by omega)
    omega
def deadS : Slot := ⟨2, 0, [], .slice none 0 0, []⟩
/-- A key goes. -/
theorem TV.drop {ss : List Slot} (h : TV ss) {j : Nat} (hj : j < ss.length) (hs : (sl ss j).st = 1) :
    TV (ss.set j deadS) ∧ (LiveL ss).Perm (sl ss j :: LiveL (ss.set j deadS)) ∧ deadN (ss.set j deadS) = deadN ss + 1 := by
  obtain ⟨R, r1, r2⟩ := filt_set liveB hj
  obtain ⟨D, d1, d2⟩ := filt_set deadB hj
  have lb : liveB (sl ss j) = true := by simp [liveB, hs]
  have db : deadB (sl ss j) = false := by simp [deadB, hs]
  have lx : liveB deadS = false := rfl
  have dx : deadB deadS = true := rfl
  have p1 : (LiveL ss).Perm (sl ss j :: LiveL (ss.set j deadS)) := by
    have a := r2 deadS
    rw [lx] at a
    rw [if_pos lb] at r1
    exact r1.trans (List.Perm.cons _ (by simpa [LiveL] using a.symm))
  have p2 : deadN (ss.set j deadS) = deadN ss + 1 := by
    have a := (d2 deadS).length_eq
    have b := d1.length_eq
    rw [dx] at a
    rw [db] at b
    unfold deadN
    simp at a b
    omega
  refine ⟨h.set hj (by simp [deadS]) (by simp [deadS]) (fun _ => ⟨rfl, rfl, rfl⟩) (fun a => by simp [deadS] at a) ?_, p1, p2⟩
  have a := p1.length_eq
  rw [List.length_cons] at a
  have hr := h.room
  omega
/-- A key's list turns. -/
theorem TV.turn {ss : List Slot} (h : TV ss) {j : Nat} (hj : j < ss.length) (hs : (sl ss j).st = 1) (lv : Value) (es : List Ent) :
    TV (ss.set j ⟨1, (sl ss j).hash, (sl ss j).key, lv, es⟩) ∧ (∃ R, (LiveL ss).Perm (sl ss j :: R) ∧ (LiveL (ss.set j ⟨1, (sl ss j).hash, (sl ss j).key, lv, es⟩)).Perm (⟨1, (sl ss j).hash, (sl ss j).key, lv, es⟩ :: R)) ∧ deadN (ss.set j ⟨1, (sl ss j).hash, (sl ss j).key, lv, es⟩) = deadN ss := by
  obtain ⟨R, r1, r2⟩ := filt_set liveB hj
  obtain ⟨D, d1, d2⟩ := filt_set deadB hj
  have lb : liveB (sl ss j) = true := by simp [liveB, hs]
  have db : deadB (sl ss j) = false := by simp [deadB, hs]
  generalize hx : (⟨1, (sl ss j).hash, (sl ss j).key, lv, es⟩ : Slot) = x
  have x1 : x.st = 1 := by rw [← hx]
  have x2 : x.hash = (sl ss j).hash := by rw [← hx]
  have x3 : x.key = (sl ss j).key := by rw [← hx]
  have lx : liveB x = true := by simp [liveB, x1]
  have dx : deadB x = false := by simp [deadB, x1]
  have a := r2 x
  rw [if_pos lx] at a
  rw [if_pos lb] at r1
  have p2 : deadN (ss.set j x) = deadN ss := by
    have a := (d2 x).length_eq
    have b := d1.length_eq
    rw [dx] at a
    rw [db] at b
    unfold deadN
    simp at a b
    omega
  refine ⟨h.set hj (by omega) (by omega) (fun b => absurd x1 b) (fun _ => ⟨by rw [x2, x3]; exact h.hh _ (sl_mem hj) hs, by rw [x2]; exact h.path j hj hs, ?_⟩) ?_, ⟨R, r1, a⟩, p2⟩
  · intro i hi hne he hk
    exact hne (h.uniq i j hi hj he hs (by rw [hk, x3]))
  · have l1 := a.length_eq
    have l2 := r1.length_eq
    have hr := h.room
    simp only [List.singleton_append, List.length_cons] at l1 l2
    unfold LiveL at *
    omega
theorem TV.new (m : Nat) (h3 : 3 ≤ m) (h20 : m ≤ 20) : TV (List.replicate (2 ^ m) Go.Proofs.Qxb6500766a.free) ∧ LiveL (List.replicate (2 ^ m) Go.Proofs.Qxb6500766a.free) = [] ∧ deadN (List.replicate (2 ^ m) Go.Proofs.Qxb6500766a.free) = 0 := by
  have hl : LiveL (List.replicate (2 ^ m) Go.Proofs.Qxb6500766a.free) = [] := by
    unfold LiveL
    rw [List.filter_eq_nil_iff]
    intro s hs
    rw [List.eq_of_mem_replicate hs]
    simp [liveB, Go.Proofs.Qxb6500766a.free]
  have hd : deadN (List.replicate (2 ^ m) Go.Proofs.Qxb6500766a.free) = 0 := by
    unfold deadN
    rw [List.length_eq_zero_iff, List.filter_eq_nil_iff]
    intro s hs
    rw [List.eq_of_mem_replicate hs]
    simp [deadB, Go.Proofs.Qxb6500766a.free]
  have hs0 : ∀ i, i < 2 ^ m → (sl (List.replicate (2 ^ m) Go.Proofs.Qxb6500766a.free) i).st = 0 := fun i hi => by
    rw [sl_eq (by simpa using hi), List.getElem_replicate]; rfl
  refine ⟨⟨⟨m, h3, h20, by simp⟩, ?_, ?_, ?_, ?_, ?_, by rw [hl, hd]; simp⟩, hl, hd⟩
  · intro s hs; rw [List.eq_of_mem_replicate hs]; simp [Go.Proofs.Qxb6500766a.free]
  · intro s hs _; rw [List.eq_of_mem_replicate hs]; exact ⟨rfl, rfl, rfl⟩
  · intro s hs he; rw [List.eq_of_mem_replicate hs] at he; simp [Go.Proofs.Qxb6500766a.free] at he
  · intro i hi he
    have := hs0 i (by simpa using hi)
    omega
  · intro i j hi hj he _ _
    have := hs0 i (by simpa using hi)
    omega
end Go.Proofs.Qxb6500766a
