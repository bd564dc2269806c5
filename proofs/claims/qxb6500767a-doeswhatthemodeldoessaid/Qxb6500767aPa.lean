/- unionvfs: the rules of the tree (plain). -/
import Derived.Test.Qxb6500767aTr
import Derived.Test.Qxb6500767aTs
import Derived.Test.Qxb6500767aTt
namespace Go.Proofs.Qxb6500767a
open Go.RowKit Go.Qm
set_option linter.unusedVariables false
set_option linter.unusedSimpArgs false
theorem lessB_irrefl : ∀ l, lessB l l = false
  | [] => rfl
  | a :: l => by rw [lessB, if_pos rfl]; exact lessB_irrefl l
theorem lessB_trans : ∀ {a b c : List UInt8}, lessB a b = true → lessB b c = true → lessB a c = true
  | [], _, [], h1, h2 => by cases ‹List UInt8› <;> simp [lessB] at h1 h2
  | [], _, _ :: _, _, _ => rfl
  | _ :: _, [], _, h1, _ => by simp [lessB] at h1
  | x :: a, y :: b, [], _, h2 => by simp [lessB] at h2
  | x :: a, y :: b, z :: c, h1, h2 => by
    rw [lessB] at *
    by_cases e1 : x = y
    · subst e1
      rw [if_pos rfl] at h1
      by_cases e2 : x = z
      · subst e2
        rw [if_pos rfl] at h2 ⊢
        exact lessB_trans h1 h2
      · rw [if_neg e2] at h2 ⊢
        exact h2
    · rw [if_neg e1, decide_eq_true_eq] at h1
      by_cases e2 : y = z
      · subst e2
        rw [if_neg e1, decide_eq_true_eq]
        exact h1
      · rw [if_neg e2, decide_eq_true_eq] at h2
        by_cases e3 : x = z
        · subst e3; omega
        · rw [if_neg e3, decide_eq_true_eq]; omega
theorem lessB_asymm {a b : List UInt8} (h : lessB a b = true) : lessB b a = false := by
  cases e : lessB b a with
  | false => rfl
  | true => have := lessB_trans h e; rw [lessB_irrefl] at this; cases this
theorem lessB_total : ∀ {a b : List UInt8}, a ≠ b → lessB a b = true ∨ lessB b a = true
  | [], [], h => absurd rfl h
  | [], _ :: _, _ => Or.inl rfl
  | _ :: _, [], _ => Or.inr rfl
  | x :: a, y :: b, h => by
    rw [lessB, lessB]
    by_cases e : x = y
    · subst e
      rw [if_pos rfl, if_pos rfl]
      exact lessB_total (fun q => h (by rw [q]))
    · rw [if_neg e, if_neg (fun q => e q.symm), decide_eq_true_eq, decide_eq_true_eq]
      have : x.toNat ≠ y.toNat := fun q => e (UInt8.toNat_inj.1 q)
      omega
theorem sum_set {f : Nd → Nat} : ∀ (T : List Nd) (i : Nat) (x : Nd), i < T.length → ((T.set i x).map f).sum + f (at' T i) = (T.map f).sum + f x
  | [], i, x, h => by simp at h
  | y :: T, 0, x, h => by simp [at']; omega
  | y :: T, i + 1, x, h => by
    have := sum_set (f := f) T i x (by simpa using h)
    simp only [List.set_cons_succ, List.map_cons, List.sum_cons]
    have e : at' (y :: T) (i + 1) = at' T i := rfl
    rw [e]; omega
theorem sum_ge {f : Nd → Nat} : ∀ (T : List Nd) (i : Nat), i < T.length → f (at' T i) ≤ (T.map f).sum
  | [], i, h => by simp at h
  | y :: T, 0, h => by simp [at']
  | y :: T, i + 1, h => by
    have := sum_ge (f := f) T i (by simpa using h)
    have e : at' (y :: T) (i + 1) = at' T i := rfl
    rw [e]; simp; omega
theorem at_ge {T : List Nd} {i : Nat} (h : T.length ≤ i) : at' T i = nd0 := by unfold at'; rw [List.getD_eq_getElem?_getD, List.getElem?_eq_none h]; rfl
theorem at_app {T : List Nd} {i : Nat} (x : Nd) (h : i < T.length) : at' (T ++ [x]) i = at' T i := by
  unfold at'; rw [List.getD_eq_getElem?_getD, List.getD_eq_getElem?_getD, List.getElem?_append_left h]
theorem at_last (T : List Nd) (x : Nd) : at' (T ++ [x]) T.length = x := by
  unfold at'; rw [List.getD_eq_getElem?_getD, List.getElem?_append_right (Nat.le_refl _)]; simp
/-- The edges of x that lead to n. -/
def ec (n : Nat) (x : Nd) : Nat := x.edges.countP fun e => e.node == n
/-- All edges that lead to n. -/
def cnt (T : List Nd) (n : Nat) : Nat := (T.map (ec n)).sum
theorem cnt_mem {T : List Nd} {i n : Nat} {e : Edg} (he : e ∈ (at' T i).edges) (hn : e.node = n) : 1 ≤ cnt T n := by
  have hi : i < T.length := by
    rcases Nat.lt_or_ge i T.length with h | h
    · exact h
    · rw [at_ge h] at he; simp [nd0] at he
  have h1 := sum_ge (f := ec n) T i hi
  have h2 : 0 < ec n (at' T i) := List.countP_pos_iff.2 ⟨e, he, by simp [hn]⟩
  unfold cnt; omega
/-- The rules of a tree after k steps; ex: the node whose name is on its way. -/
structure TIx (ex : Nat → Prop) (k kf kn : Nat) (T : List Nd) : Prop where
  root : 0 < T.length
  rk : (at' T 0).kind = 2
  rp : (at' T 0).par = 0
  len : T.length ≤ k + 1
  par : ∀ i, (at' T i).par < T.length
  pk : ∀ i, (at' T (at' T i).par).kind = 2 ∨ (at' T (at' T i).par).kind = 0
  few : ∀ i, (at' T i).edges.length ≤ kf
  edg : ∀ i, ∀ e ∈ (at' T i).edges, e.node < T.length
  lnk : ∀ i, (at' T i).kind = 3 → (at' T i).data ≠ [] ∧ (at' T i).data.length ≤ 255
  kd : ∀ i, (at' T i).kind ≤ 3
  keys : ∀ i, ∀ e ∈ (at' T i).edges, e.key ≠ [] ∧ e.key.length ≤ 4000
  srt : ∀ i, (at' T i).edges.Pairwise fun a b => lessB a.key b.key = true
  links : ∀ i, (at' T i).links ≤ kn + 1
  cn : ∀ n, cnt T n + (if n = 0 then 1 else 0) ≤ (at' T n).links
  live : ∀ i, (at' T i).edges ≠ [] → 1 ≤ (at' T i).links ∧ (at' T i).kind = 2
  dl : ∀ i, (at' T i).kind = 2 → (at' T i).links ≤ 1
  up : ∀ i, ¬ ex i → (at' T i).kind = 2 → 1 ≤ (at' T i).links → i ≠ 0 → ∃ e ∈ (at' T (at' T i).par).edges, e.node = i
  kz : ∀ i, (at' T i).kind = 0 ↔ ((at' T i).links = 0 ∧ (at' T i).opens = 0)
  ub : usedB T ≤ 512
  uz : ∃ f, ∀ d, upZ T f d
abbrev TI (k : Nat) := TIx (fun _ => False) k k k
theorem blk_le (n : Nat) : n ≤ blk n * 64 := by unfold blk; omega
section
variable {ex : Nat → Prop} {k kf kn : Nat} {T : List Nd}
theorem TIx.more (h : TIx ex k kf kn T) {k' kf' kn' : Nat} (hk : k ≤ k') (hf : kf ≤ kf') (hn : kn ≤ kn') : TIx ex k' kf' kn' T :=
  { h with len := by have := h.len; omega, few := fun i => Nat.le_trans (h.few i) hf, links := fun i => by have := h.links i; omega }
theorem TIx.weak (h : TIx ex k kf kn T) {ex' : Nat → Prop} (hx : ∀ i, ex i → ex' i) : TIx ex' k kf kn T := { h with up := fun i hi => h.up i (fun a => hi (hx i a)) }
theorem TIx.data (h : TIx ex k kf kn T) (i : Nat) : (at' T i).data.length ≤ 32768 := by
  rcases Nat.lt_or_ge i T.length with a | a
  · have h1 := sum_ge (f := fun x => blk x.data.length) T i a
    have h2 := h.ub
    unfold usedB at h2
    have h3 := blk_le (at' T i).data.length
    have h4 : blk (at' T i).data.length ≤ (T.map fun x => blk x.data.length).sum := h1
    omega
  · rw [at_ge a]; simp [nd0]
theorem TIx.held (h : TIx ex k kf kn T) {i : Nat} {e : Edg} (he : e ∈ (at' T i).edges) : 1 ≤ (at' T e.node).links := by
  have h1 := h.cn e.node
  have h2 := cnt_mem he rfl
  omega
theorem TIx.tok (h : TIx ex k kf kn T) (hk : k ≤ 80000) (hf : kf ≤ 80000) : TOK T where
  root := h.root
  len := by have := h.len; omega
  par := fun i _ => h.par i
  few := fun i _ => by have := h.few i; omega
  edg := fun i _ => h.edg i
  lnk := fun i _ => h.lnk i
theorem TIx.noroot (h : TIx ex k kf kn T) {i : Nat} {e : Edg} (he : e ∈ (at' T i).edges) : e.node ≠ 0 := by
  intro e0
  have h1 := h.cn 0
  have h2 := cnt_mem he e0
  have h3 := h.dl 0 h.rk
  rw [if_pos rfl] at h1
  omega
end
theorem upZ_zero (T : List Nd) (f : Nat) : upZ T f 0 := by cases f <;> simp [upZ]
theorem upZ_succ {T : List Nd} : ∀ {f d : Nat}, upZ T f d → upZ T (f + 1) d
  | 0, d, h => Or.inl h
  | f + 1, d, h => by
    rcases h with h | h
    · exact Or.inl h
    · exact Or.inr (upZ_succ h)
theorem upZ_le {T : List Nd} {f g d : Nat} (h : upZ T f d) (hg : f ≤ g) : upZ T g d := by
  induction hg with
  | refl => exact h
  | step _ ih => exact upZ_succ ih
/-- The parents are the same. -/
theorem upZ_same {T T' : List Nd} (hp : ∀ i, (at' T' i).par = (at' T i).par) : ∀ {f d : Nat}, upZ T f d → upZ T' f d
  | 0, d, h => h
  | f + 1, d, h => by
    rcases h with h | h
    · exact Or.inl h
    · exact Or.inr (by rw [hp]; exact upZ_same hp h)
/-- Some parents have become the root. -/
theorem upZ_cut {T T' : List Nd} (hp : ∀ i, (at' T' i).par = (at' T i).par ∨ (at' T' i).par = 0) : ∀ {f d : Nat}, upZ T f d → upZ T' f d
  | 0, d, h => h
  | f + 1, d, h => by
    rcases h with h | h
    · exact Or.inl h
    · refine Or.inr ?_
      rcases hp d with e | e
      · rw [e]; exact upZ_cut hp h
      · rw [e]; exact upZ_zero _ _
/-- Node n has got the parent t, whose way up does not meet n. -/
theorem upZ_off {T T' : List Nd} {n : Nat} (hp : ∀ i, i ≠ n → (at' T' i).par = (at' T i).par) : ∀ {f d : Nat}, upZ T f d → wthB T f d n = false → upZ T' f d
  | 0, d, h, _ => h
  | f + 1, d, h, hw => by
    rcases h with h | h
    · exact Or.inl h
    · by_cases h0 : d = 0
      · exact Or.inl h0
      · refine Or.inr ?_
        rw [wthB] at hw
        by_cases e : d = n
        · rw [if_pos e] at hw; cases hw
        · rw [if_neg e, if_neg h0] at hw
          rw [hp d e]
          exact upZ_off hp h hw
theorem upZ_move {T T' : List Nd} {n t : Nat} (hp : ∀ i, i ≠ n → (at' T' i).par = (at' T i).par) (hn : (at' T' n).par = t) {F : Nat} (ht : upZ T' F t) : ∀ {f d : Nat}, upZ T f d → upZ T' (f + F + 1) d
  | 0, d, h => by cases h; exact upZ_zero _ _
  | f + 1, d, h => by
    by_cases e : d = n
    · subst e
      refine upZ_le (f := F + 1) (Or.inr ?_) (by omega)
      rw [hn]; exact ht
    · rcases h with h | h
      · rw [h]; exact upZ_zero _ _
      · have := upZ_move hp hn ht h
        have e2 : f + 1 + F + 1 = (f + F + 1) + 1 := by omega
        rw [e2]
        exact Or.inr (by rw [hp d e]; exact this)
theorem wthB_off {T : List Nd} {n : Nat} (hn : ∀ i, (at' T i).par ≠ n) : ∀ {f d : Nat}, d ≠ n → wthB T f d n = false
  | 0, d, h => by simp [wthB, h]
  | f + 1, d, h => by
    rw [wthB, if_neg h]
    split
    · rfl
    · exact wthB_off hn (hn d)
end Go.Proofs.Qxb6500767a
