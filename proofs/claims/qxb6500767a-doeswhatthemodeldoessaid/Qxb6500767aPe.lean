/- unionvfs: the rules of the handles (plain). -/
import Derived.Test.Qxb6500767aFn
import Derived.Test.Qxb6500767aFo
import Derived.Test.Qxb6500767aFp
import Derived.Test.Qxb6500767aFk
import Derived.Test.Qxb6500767aFh
import Derived.Test.Qxb6500767aFg
namespace Go.Proofs.Qxb6500767a
open Go.RowKit Go.Qm
set_option linter.unusedVariables false
set_option linter.unusedSimpArgs false
theorem countP_one {p q : Nat → Bool} {n : Nat} : ∀ {l : List Nat}, l.Nodup → n ∈ l → (∀ m ∈ l, m ≠ n → p m = q m) → l.countP q + (if p n = true then 1 else 0) = l.countP p + (if q n = true then 1 else 0)
  | [], _, h, _ => by simp at h
  | x :: l, hd, hm, he => by
    obtain ⟨h1, h2⟩ := List.nodup_cons.1 hd
    rw [List.countP_cons, List.countP_cons]
    by_cases e : x = n
    · subst e
      have : l.countP q = l.countP p := List.countP_congr (fun m hm => by rw [he m (List.mem_cons_of_mem _ hm) (fun a => h1 (a ▸ hm))])
      omega
    · have hm' : n ∈ l := by
        rcases List.mem_cons.1 hm with a | a
        · exact absurd a.symm e
        · exact a
      have ih := countP_one h2 hm' (fun m hm => he m (List.mem_cons_of_mem _ hm))
      have hx := he x (by simp) e
      rw [hx]
      omega
/-- Does handle n hold node i? -/
def hol (u : Nat) (hs : List Hd) (i n : Nat) : Bool := u.testBit n && (hat hs n).node == i
/-- The handles on node i. -/
def hcnt (u : Nat) (hs : List Hd) (i : Nat) : Nat := (List.range 32).countP (hol u hs i)
theorem hcnt_le (u : Nat) (hs : List Hd) (i : Nat) : hcnt u hs i ≤ 32 := by
  have := List.countP_le_length (p := hol u hs i) (l := List.range 32)
  simpa [hcnt] using this
theorem hcnt_pos {u : Nat} {hs : List Hd} {i n : Nat} (hn : n < 32) (h : hol u hs i n = true) : 1 ≤ hcnt u hs i :=
  List.countP_pos_iff.2 ⟨n, by simpa using hn, h⟩
theorem hcnt_one {u u' : Nat} {hs hs' : List Hd} {i n : Nat} (hn : n < 32) (he : ∀ m, m < 32 → m ≠ n → hol u hs i m = hol u' hs' i m) : hcnt u' hs' i + (if hol u hs i n = true then 1 else 0) = hcnt u hs i + (if hol u' hs' i n = true then 1 else 0) :=
  countP_one List.nodup_range (by simpa using hn) (fun m hm => he m (by simpa using hm))
theorem hcnt_same {u u' : Nat} {hs hs' : List Hd} {i : Nat} (he : ∀ m, m < 32 → hol u hs i m = hol u' hs' i m) : hcnt u' hs' i = hcnt u hs i :=
  List.countP_congr (fun m hm => by rw [he m (by simpa using hm)])
/-- The rules of the table of handles. -/
structure HI (u : Nat) (hs : List Hd) (T : List Nd) : Prop where
  len : hs.length = 32
  lt : u < 2 ^ 32
  nd : ∀ n, n < 32 → u.testBit n = true → ((at' T (hat hs n).node).kind = 1 ∨ (at' T (hat hs n).node).kind = 2) ∧ (hat hs n).dir = decide ((at' T (hat hs n).node).kind = 2)
  op : ∀ i, (at' T i).opens = hcnt u hs i
  off : ∀ n, n < 32 → (hat hs n).off ≤ 1048576
  cur : ∀ n, n < 32 → (hat hs n).cur.length ≤ 4000
section
variable {u : Nat} {hs : List Hd} {T T' : List Nd}
theorem HI.opos (h : HI u hs T) {n : Nat} (hn : n < 32) (hb : u.testBit n = true) : 1 ≤ (at' T (hat hs n).node).opens := by
  rw [h.op]; exact hcnt_pos hn (by unfold hol; rw [hb]; simp)
theorem HI.olt (h : HI u hs T) (i : Nat) : (at' T i).opens ≤ 32 := by rw [h.op]; exact hcnt_le _ _ _
theorem HI.node (h : HI u hs T) : HNode u hs T := fun n hn hb => by
  rcases Nat.lt_or_ge (hat hs n).node T.length with a | a
  · exact a
  · have := (h.nd n hn hb).1
    rw [at_ge a] at this
    rcases this with b | b <;> cases b
theorem HI.file (h : HI u hs T) : HFile u hs T := fun n hn hb hd => by
  have := h.nd n hn hb
  rw [hd] at this
  rcases this.1 with b | b
  · exact b
  · have := this.2; rw [b] at this; cases this
theorem HI.ns (h : HI u hs T) (s : NS T T') : HI u hs T' :=
  { h with nd := fun n hn hb => by rw [(s.same _ (h.opos hn hb)).1]; exact h.nd n hn hb
           op := fun i => by rw [s.op]; exact h.op i }
/-- The numbers of a handle that are no part of what it holds. -/
theorem HI.hset (h : HI u hs T) {n : Nat} (hn : n < 32) (x : Hd) (h1 : x.node = (hat hs n).node) (h2 : x.dir = (hat hs n).dir) (h3 : x.off ≤ 1048576) (h4 : x.cur.length ≤ 4000) : HI u (hs.set n x) T := by
  have hl : n < hs.length := by rw [h.len]; exact hn
  have N : ∀ m, (hat (hs.set n x) m).node = (hat hs m).node ∧ (hat (hs.set n x) m).dir = (hat hs m).dir := fun m => by
    by_cases e : n = m
    · subst e; rw [hat_set hl]; exact ⟨h1, h2⟩
    · rw [hat_set_ne e]; exact ⟨rfl, rfl⟩
  refine ⟨by rw [List.length_set]; exact h.len, h.lt, fun m hm hb => ?_, fun i => ?_, fun m hm => ?_, fun m hm => ?_⟩
  · rw [(N m).1, (N m).2]; exact h.nd m hm hb
  · rw [h.op, hcnt_same (fun m _ => by unfold hol; rw [(N m).1])]
  · by_cases e : n = m
    · subst e; rw [hat_set hl]; exact h3
    · rw [hat_set_ne e]; exact h.off m hm
  · by_cases e : n = m
    · subst e; rw [hat_set hl]; exact h4
    · rw [hat_set_ne e]; exact h.cur m hm
/-- Mode or data of a node. -/
theorem HI.tset (h : HI u hs T) {i : Nat} (hi : i < T.length) (x : Nd) (h1 : x.kind = (at' T i).kind) (h2 : x.opens = (at' T i).opens) : HI u hs (T.set i x) := by
  have A := at_upd hi x
  have K : ∀ j, (at' (T.set i x) j).kind = (at' T j).kind ∧ (at' (T.set i x) j).opens = (at' T j).opens := fun j => by
    rw [A]; by_cases e : j = i
    · rw [if_pos e, e]; exact ⟨h1, h2⟩
    · rw [if_neg e]; exact ⟨rfl, rfl⟩
  exact { h with nd := fun n hn hb => by rw [(K _).1]; exact h.nd n hn hb
                 op := fun j => by rw [(K j).2]; exact h.op j }
theorem bit_set {u n m : Nat} : (u ||| 2 ^ n).testBit m = (u.testBit m || decide (n = m)) := by rw [Nat.testBit_or, Nat.testBit_two_pow]
/-- A handle is opened. -/
theorem HI.open (h : HI u hs T) {n : Nat} (hn : n < 32) (hb : u.testBit n = false) {i : Nat} (hi : i < T.length) (hk : (at' T i).kind = 1 ∨ (at' T i).kind = 2) (fl : Int) :
    HI (u ||| 2 ^ n) (hs.set n ⟨i, fl, decide ((at' T i).kind = 2), 0, []⟩) (T.set i { at' T i with opens := (at' T i).opens + 1 }) := by
  have hl : n < hs.length := by rw [h.len]; exact hn
  have A := at_upd hi { at' T i with opens := (at' T i).opens + 1 }
  have K : ∀ j, (at' (T.set i { at' T i with opens := (at' T i).opens + 1 }) j).kind = (at' T j).kind := fun j => by
    rw [A]; by_cases e : j = i
    · rw [if_pos e, e]
    · rw [if_neg e]
  refine ⟨by rw [List.length_set]; exact h.len, or_lt h.lt hn, fun m hm hb2 => ?_, fun j => ?_, fun m hm => ?_, fun m hm => ?_⟩
  · rw [K]
    by_cases e : n = m
    · subst e; rw [hat_set hl]; exact ⟨hk, rfl⟩
    · rw [hat_set_ne e]
      rw [bit_set, decide_eq_false e, Bool.or_false] at hb2
      exact h.nd m hm hb2
  · have h1 := hcnt_one (u := u) (u' := u ||| 2 ^ n) (hs := hs) (hs' := hs.set n ⟨i, fl, decide ((at' T i).kind = 2), 0, []⟩) (i := j) hn (fun m hm e => by
      unfold hol; rw [bit_set, decide_eq_false (Ne.symm e), Bool.or_false, hat_set_ne (Ne.symm e)])
    have h2 : hol u hs j n = false := by unfold hol; rw [hb]; rfl
    have h3 : hol (u ||| 2 ^ n) (hs.set n ⟨i, fl, decide ((at' T i).kind = 2), 0, []⟩) j n = decide (i = j) := by
      unfold hol; rw [bit_set, hat_set hl]
      simp
      rfl
    rw [h2, h3] at h1
    have h4 := h.op j
    rw [A]
    by_cases e : j = i
    · subst e
      rw [if_pos rfl]
      simp at h1 ⊢
      omega
    · rw [if_neg e]
      rw [if_neg (by decide), if_neg (by simpa using Ne.symm e)] at h1
      omega
  · by_cases e : n = m
    · subst e; rw [hat_set hl]; exact Nat.zero_le _
    · rw [hat_set_ne e]; exact h.off m hm
  · by_cases e : n = m
    · subst e; rw [hat_set hl]; exact Nat.zero_le _
    · rw [hat_set_ne e]; exact h.cur m hm
/-- A handle is closed. -/
theorem HI.close (h : HI u hs T) {n : Nat} (hn : n < 32) (hb : u.testBit n = true) (hi : (hat hs n).node < T.length) : HI (clr u n) (hs.set n hd0) (releaseF T (hat hs n).node) := by
  have hl : n < hs.length := by rw [h.len]; exact hn
  obtain ⟨i, hie⟩ : ∃ i, i = (hat hs n).node := ⟨_, rfl⟩
  rw [← hie] at hi ⊢
  have A := at_upd hi { at' T i with opens := (at' T i).opens - 1 }
  have l1 : (T.set i { at' T i with opens := (at' T i).opens - 1 }).length = T.length := List.length_set
  have A2 := at_upd (T := T.set i { at' T i with opens := (at' T i).opens - 1 }) (i := i) (by rw [l1]; exact hi) nd0
  have H : ∀ j, hcnt (clr u n) (hs.set n hd0) j + (if i = j then 1 else 0) = hcnt u hs j := fun j => by
    have h1 := hcnt_one (u := u) (u' := clr u n) (hs := hs) (hs' := hs.set n hd0) (i := j) hn (fun m hm e => by
      unfold hol; rw [clr_bit hn hm, decide_eq_false (Ne.symm e), hat_set_ne (Ne.symm e)]; simp)
    have h2 : hol u hs j n = decide (i = j) := by unfold hol; rw [hb, ← hie]; simp; rfl
    have h3 : hol (clr u n) (hs.set n hd0) j n = false := by unfold hol; rw [clr_bit hn hn, decide_eq_true rfl]; simp
    rw [h2, h3] at h1
    simp at h1
    exact h1
  have O : ∀ j, (at' (T.set i { at' T i with opens := (at' T i).opens - 1 }) j).opens = hcnt (clr u n) (hs.set n hd0) j := fun j => by
    have h1 := H j
    have h2 := h.op j
    rw [A]
    by_cases e : j = i
    · subst e
      rw [if_pos rfl] at h1 ⊢
      simp only
      omega
    · rw [if_neg e]
      rw [if_neg (Ne.symm e)] at h1
      omega
  have R : ∀ j, (at' (releaseF T i) j).opens = hcnt (clr u n) (hs.set n hd0) j := fun j => by
    unfold releaseF reapF
    split
    · next a =>
      rw [A2]
      by_cases e : j = i
      · subst e
        rw [if_pos rfl, ← O j, a.2]; rfl
      · rw [if_neg e]; exact O j
    · exact O j
  have K : ∀ j, 1 ≤ hcnt (clr u n) (hs.set n hd0) j → (at' (releaseF T i) j).kind = (at' T j).kind := fun j hj => by
    have k1 : (at' (T.set i { at' T i with opens := (at' T i).opens - 1 }) j).kind = (at' T j).kind := by
      rw [A]
      by_cases e : j = i
      · rw [if_pos e, e]
      · rw [if_neg e]
    unfold releaseF reapF
    split
    · next a =>
      rw [A2]
      by_cases e : j = i
      · subst e
        rw [← O j, a.2] at hj
        omega
      · rw [if_neg e]; exact k1
    · exact k1
  refine ⟨by rw [List.length_set]; exact h.len, clr_lt n h.lt, fun m hm hb2 => ?_, fun j => R j, fun m hm => ?_, fun m hm => ?_⟩
  · have hb3 := hb2
    rw [clr_bit hn hm] at hb2
    have e : n ≠ m := fun a => by rw [decide_eq_true a] at hb2; simp at hb2
    rw [decide_eq_false e] at hb2
    have hb4 : u.testBit m = true := by simpa using hb2
    have hp : 1 ≤ hcnt (clr u n) (hs.set n hd0) (hat (hs.set n hd0) m).node := hcnt_pos hm (by unfold hol; rw [hb3]; simp)
    rw [K _ hp, hat_set_ne e]
    exact h.nd m hm hb4
  · by_cases e : n = m
    · subst e; rw [hat_set hl]; exact Nat.zero_le _
    · rw [hat_set_ne e]; exact h.off m hm
  · by_cases e : n = m
    · subst e; rw [hat_set hl]; exact Nat.zero_le _
    · rw [hat_set_ne e]; exact h.cur m hm
end
end Go.Proofs.Qxb6500767a
