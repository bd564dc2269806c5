/- unionvfs: the rules of the tree (plain). -/
import Derived.Test.Qxb6500767aPa
namespace Go.Proofs.Qxb6500767a
open Go.RowKit Go.Qm
set_option linter.unusedVariables false
set_option linter.unusedSimpArgs false
theorem at_upd {T : List Nd} {i : Nat} (hi : i < T.length) (x : Nd) (j : Nat) : at' (T.set i x) j = if j = i then x else at' T j := by
  by_cases e : j = i
  · rw [if_pos e, e, at_set hi]
  · rw [if_neg e, at_set_ne (Ne.symm e)]
theorem cnt_set {T : List Nd} {i : Nat} (hi : i < T.length) (x : Nd) (n : Nat) : cnt (T.set i x) n + ec n (at' T i) = cnt T n + ec n x := sum_set T i x hi
theorem cnt_same {T : List Nd} {i : Nat} (hi : i < T.length) {x : Nd} (he : x.edges = (at' T i).edges) (n : Nat) : cnt (T.set i x) n = cnt T n := by
  have := cnt_set hi x n
  have e : ec n x = ec n (at' T i) := by unfold ec; rw [he]
  omega
theorem usedB_set {T : List Nd} {i : Nat} (hi : i < T.length) (x : Nd) : usedB (T.set i x) + blk (at' T i).data.length = usedB T + blk x.data.length := sum_set (f := fun y => blk y.data.length) T i x hi
theorem usedB_same {T : List Nd} {i : Nat} (hi : i < T.length) {x : Nd} (he : x.data = (at' T i).data) : usedB (T.set i x) = usedB T := by
  have := usedB_set hi x
  rw [he] at this
  omega
section
variable {ex : Nat → Prop} {k kf kn : Nat} {T : List Nd}
/-- Numbers and data of a node are set. -/
theorem TIx.num (h : TIx ex k kf kn T) {i : Nat} (hi : i < T.length) (x : Nd) (hk : x.kind = (at' T i).kind) (hp : x.par = (at' T i).par) (he : x.edges = (at' T i).edges)
    (h3 : x.kind = 3 → x.data ≠ [] ∧ x.data.length ≤ 255) {kn' : Nat} (hkn : kn ≤ kn') (hl : x.links ≤ kn' + 1) (hc : (at' T i).links ≤ x.links) (hd : x.kind = 2 → x.links = (at' T i).links) (hz : x.kind = 0 ↔ (x.links = 0 ∧ x.opens = 0)) (hu : usedB (T.set i x) ≤ 512) : TIx ex k kf kn' (T.set i x) := by
  have A := at_upd hi x
  have K : ∀ j, (at' (T.set i x) j).kind = (at' T j).kind := fun j => by rw [A]; by_cases e : j = i; (· rw [if_pos e, e, hk]); · rw [if_neg e]
  have P : ∀ j, (at' (T.set i x) j).par = (at' T j).par := fun j => by rw [A]; by_cases e : j = i; (· rw [if_pos e, e, hp]); · rw [if_neg e]
  have E : ∀ j, (at' (T.set i x) j).edges = (at' T j).edges := fun j => by rw [A]; by_cases e : j = i; (· rw [if_pos e, e, he]); · rw [if_neg e]
  have L : ∀ j, (at' T j).links ≤ (at' (T.set i x) j).links := fun j => by rw [A]; by_cases e : j = i; (· rw [if_pos e, e]; exact hc); · rw [if_neg e]; exact Nat.le_refl _
  have N : (T.set i x).length = T.length := List.length_set
  exact {
    root := by rw [N]; exact h.root
    rk := by rw [K]; exact h.rk
    rp := by rw [P]; exact h.rp
    len := by rw [N]; exact h.len
    par := fun j => by rw [P, N]; exact h.par j
    pk := fun j => by rw [P, K]; exact h.pk j
    few := fun j => by rw [E]; exact h.few j
    edg := fun j e hj => by rw [E] at hj; rw [N]; exact h.edg j e hj
    lnk := fun j hj => by
      rw [A] at hj ⊢
      by_cases e : j = i
      · rw [if_pos e] at hj ⊢; exact h3 hj
      · rw [if_neg e] at hj ⊢; exact h.lnk j hj
    kd := fun j => by rw [K]; exact h.kd j
    keys := fun j e hj => by rw [E] at hj; exact h.keys j e hj
    srt := fun j => by rw [E]; exact h.srt j
    links := fun j => by
      rw [A]; split
      · exact hl
      · have := h.links j; omega
    cn := fun n => by
      rw [cnt_same hi he]
      exact Nat.le_trans (h.cn n) (L n)
    live := fun j hj => by
      rw [E] at hj; rw [K]
      exact ⟨Nat.le_trans (h.live j hj).1 (L j), (h.live j hj).2⟩
    dl := fun j hj => by
      have hj2 := hj
      rw [K] at hj2
      rw [A] at hj ⊢
      by_cases e : j = i
      · rw [if_pos e] at hj ⊢; rw [hd hj, ← e]; exact h.dl j hj2
      · rw [if_neg e]; exact h.dl j hj2
    up := fun j hx hj hl hj0 => by
      have hj2 := hj
      rw [K] at hj2
      rw [P, E]
      refine h.up j hx hj2 ?_ hj0
      rw [A] at hj hl
      by_cases e : j = i
      · rw [if_pos e] at hj hl; rw [e, ← hd hj]; exact hl
      · rw [if_neg e] at hl; exact hl
    kz := fun j => by
      rw [A]; split
      · exact hz
      · exact h.kz j
    ub := hu
    uz := by obtain ⟨f, hf⟩ := h.uz; exact ⟨f, fun d => upZ_same P (hf d)⟩ }
/-- The edges of a node are set. -/
theorem TIx.edges (h : TIx ex k kf kn T) {d : Nat} (hd : d < T.length) (es : List Edg) {kf' : Nat} (hkf : kf ≤ kf') (hf : es.length ≤ kf') (he : ∀ e ∈ es, e.node < T.length ∧ e.key ≠ [] ∧ e.key.length ≤ 4000) (hs : es.Pairwise fun a b => lessB a.key b.key = true)
    (hc : ∀ n, cnt T n + es.countP (fun e => e.node == n) + (if n = 0 then 1 else 0) ≤ (at' T n).links + ec n (at' T d)) (hl : es ≠ [] → 1 ≤ (at' T d).links ∧ (at' T d).kind = 2)
    {ex' : Nat → Prop} (hx : ∀ i, ex i → ex' i) (hu : ∀ i, ¬ ex' i → (at' T i).kind = 2 → 1 ≤ (at' T i).links → i ≠ 0 → (at' T i).par = d → ∃ e ∈ es, e.node = i) : TIx ex' k kf' kn (T.set d { at' T d with edges := es }) := by
  have A := at_upd hd { at' T d with edges := es }
  have Q : ∀ j, ∃ l, at' (T.set d { at' T d with edges := es }) j = { at' T j with edges := l } := fun j => by
    rw [A]; split
    · next e => exact ⟨es, by rw [e]⟩
    · exact ⟨(at' T j).edges, rfl⟩
  have K : ∀ j, (at' (T.set d { at' T d with edges := es }) j).kind = (at' T j).kind := fun j => by obtain ⟨l, e⟩ := Q j; rw [e]
  have P : ∀ j, (at' (T.set d { at' T d with edges := es }) j).par = (at' T j).par := fun j => by obtain ⟨l, e⟩ := Q j; rw [e]
  have L : ∀ j, (at' (T.set d { at' T d with edges := es }) j).links = (at' T j).links := fun j => by obtain ⟨l, e⟩ := Q j; rw [e]
  have D : ∀ j, (at' (T.set d { at' T d with edges := es }) j).data = (at' T j).data := fun j => by obtain ⟨l, e⟩ := Q j; rw [e]
  have O : ∀ j, (at' (T.set d { at' T d with edges := es }) j).opens = (at' T j).opens := fun j => by obtain ⟨l, e⟩ := Q j; rw [e]
  have E : ∀ j, (at' (T.set d { at' T d with edges := es }) j).edges = if j = d then es else (at' T j).edges := fun j => by rw [A]; split <;> rfl
  have N : (T.set d { at' T d with edges := es }).length = T.length := List.length_set
  have U := usedB_set hd { at' T d with edges := es }
  have C := cnt_set hd { at' T d with edges := es }
  generalize T.set d { at' T d with edges := es } = T' at *
  exact {
    root := by rw [N]; exact h.root
    rk := by rw [K]; exact h.rk
    rp := by rw [P]; exact h.rp
    len := by rw [N]; exact h.len
    par := fun j => by rw [P, N]; exact h.par j
    pk := fun j => by rw [P, K]; exact h.pk j
    few := fun j => by rw [E]; split; exact hf; exact Nat.le_trans (h.few j) hkf
    edg := fun j e hj => by rw [E] at hj; rw [N]; split at hj; exact (he e hj).1; exact h.edg j e hj
    lnk := fun j hj => by rw [K] at hj; rw [D]; exact h.lnk j hj
    kd := fun j => by rw [K]; exact h.kd j
    keys := fun j e hj => by rw [E] at hj; split at hj; exact (he e hj).2; exact h.keys j e hj
    srt := fun j => by rw [E]; split; exact hs; exact h.srt j
    links := fun j => by rw [L]; exact h.links j
    cn := fun n => by
      have h1 := C n
      have h2 := hc n
      rw [L]
      have e : ec n { at' T d with edges := es } = es.countP (fun e => e.node == n) := rfl
      omega
    live := fun j hj => by
      rw [E] at hj; rw [K, L]
      split at hj
      · next e => rw [e]; exact hl hj
      · exact h.live j hj
    dl := fun j hj => by rw [K] at hj; rw [L]; exact h.dl j hj
    up := fun j hx' hj hl hj0 => by
      rw [K] at hj; rw [L] at hl
      rw [P, E]
      split
      · next e => exact hu j hx' hj hl hj0 e
      · exact h.up j (fun a => hx' (hx j a)) hj hl hj0
    kz := fun j => by rw [K, L, O]; exact h.kz j
    ub := by
      have := h.ub
      have e : ({ at' T d with edges := es } : Nd).data = (at' T d).data := rfl
      rw [e] at U
      omega
    uz := by obtain ⟨f, hf⟩ := h.uz; exact ⟨f, fun d => upZ_same P (hf d)⟩ }
/-- A node without names and handles goes. -/
theorem TIx.zero (h : TIx ex k kf kn T) {n : Nat} (hn : n < T.length) (hn0 : n ≠ 0) (he : (at' T n).edges = []) (hc : cnt T n = 0) (hx : ∀ i, ex i → i = n) : TIx (fun _ => False) k kf kn (T.set n nd0) := by
  have A := at_upd hn nd0
  have E : ∀ j, (at' (T.set n nd0) j).edges = (at' T j).edges := fun j => by rw [A]; by_cases e : j = n; (· rw [if_pos e, e, he]; rfl); · rw [if_neg e]
  have N : (T.set n nd0).length = T.length := List.length_set
  have U := usedB_set hn nd0
  have C := cnt_same hn (x := nd0) he.symm
  have hb : blk nd0.data.length = 0 := rfl
  have KK : ∀ j, j ≠ n → at' (T.set n nd0) j = at' T j := fun j hj => by rw [A, if_neg hj]
  have K0 : at' (T.set n nd0) n = nd0 := by rw [A, if_pos rfl]
  generalize T.set n nd0 = T' at *
  clear A
  exact {
    root := by rw [N]; exact h.root
    rk := by rw [KK 0 (Ne.symm hn0)]; exact h.rk
    rp := by rw [KK 0 (Ne.symm hn0)]; exact h.rp
    len := by rw [N]; exact h.len
    par := fun j => by
      rw [N]
      by_cases e : j = n
      · rw [e, K0]; exact h.root
      · rw [KK j e]; exact h.par j
    pk := fun j => by
      by_cases e : j = n
      · rw [e, K0]; left; show (at' T' 0).kind = 2; rw [KK 0 (Ne.symm hn0)]; exact h.rk
      · rw [KK j e]
        by_cases e2 : (at' T j).par = n
        · rw [e2, K0]; exact Or.inr rfl
        · rw [KK _ e2]; exact h.pk j
    few := fun j => by rw [E]; exact h.few j
    edg := fun j e hj => by rw [E] at hj; rw [N]; exact h.edg j e hj
    lnk := fun j hj => by
      by_cases e : j = n
      · rw [e, K0] at hj; cases hj
      · rw [KK j e] at hj ⊢; exact h.lnk j hj
    kd := fun j => by
      by_cases e : j = n
      · rw [e, K0]; decide
      · rw [KK j e]; exact h.kd j
    keys := fun j e hj => by rw [E] at hj; exact h.keys j e hj
    srt := fun j => by rw [E]; exact h.srt j
    links := fun j => by
      by_cases e : j = n
      · rw [e, K0]; exact Nat.zero_le _
      · rw [KK j e]; exact h.links j
    cn := fun m => by
      rw [C]
      by_cases e : m = n
      · subst e; rw [hc, if_neg hn0]; exact Nat.zero_le _
      · rw [KK m e]; exact h.cn m
    live := fun j hj => by
      rw [E] at hj
      by_cases e : j = n
      · rw [e, he] at hj; exact absurd rfl hj
      · rw [KK j e]; exact h.live j hj
    dl := fun j hj => by
      by_cases e : j = n
      · rw [e, K0] at hj; cases hj
      · rw [KK j e] at hj ⊢; exact h.dl j hj
    up := fun j _ hj hl hj0 => by
      by_cases e : j = n
      · rw [e, K0] at hj; cases hj
      · rw [E]; rw [KK j e] at hj hl ⊢
        exact h.up j (fun a => e (hx j a)) hj hl hj0
    kz := fun j => by
      by_cases e : j = n
      · rw [e, K0]; exact ⟨fun _ => ⟨rfl, rfl⟩, fun _ => rfl⟩
      · rw [KK j e]; exact h.kz j
    ub := by have := h.ub; omega
    uz := by
      obtain ⟨f, hf⟩ := h.uz
      refine ⟨f, fun d => upZ_cut (fun i => ?_) (hf d)⟩
      by_cases e : i = n
      · rw [e, K0]; exact Or.inr rfl
      · rw [KK i e]; exact Or.inl rfl }
/-- A name of node n has gone; others, or handles, are left. -/
theorem TIx.dec (h : TIx ex k kf kn T) {n : Nat} (hn : n < T.length) (hn0 : n ≠ 0) (he : (at' T n).edges = []) (hc : cnt T n + 1 ≤ (at' T n).links) (hx : ∀ i, ex i → i = n) (hz : ¬ ((at' T n).links - 1 = 0 ∧ (at' T n).opens = 0)) :
    TIx (fun _ => False) k kf kn (T.set n { at' T n with links := (at' T n).links - 1 }) := by
  have A := at_upd hn { at' T n with links := (at' T n).links - 1 }
  have Q : ∀ j, ∃ l, at' (T.set n { at' T n with links := (at' T n).links - 1 }) j = { at' T j with links := l } ∧ l ≤ (at' T j).links ∧ (j ≠ n → l = (at' T j).links) ∧ (j = n → l = (at' T j).links - 1) := fun j => by
    rw [A]; split
    · next e => exact ⟨(at' T j).links - 1, by rw [e], by omega, fun a => absurd e a, fun _ => rfl⟩
    · next e => exact ⟨(at' T j).links, rfl, Nat.le_refl _, fun _ => rfl, fun a => absurd a e⟩
  have K : ∀ j, (at' (T.set n { at' T n with links := (at' T n).links - 1 }) j).kind = (at' T j).kind := fun j => by obtain ⟨l, e, -⟩ := Q j; rw [e]
  have P : ∀ j, (at' (T.set n { at' T n with links := (at' T n).links - 1 }) j).par = (at' T j).par := fun j => by obtain ⟨l, e, -⟩ := Q j; rw [e]
  have E : ∀ j, (at' (T.set n { at' T n with links := (at' T n).links - 1 }) j).edges = (at' T j).edges := fun j => by obtain ⟨l, e, -⟩ := Q j; rw [e]
  have D : ∀ j, (at' (T.set n { at' T n with links := (at' T n).links - 1 }) j).data = (at' T j).data := fun j => by obtain ⟨l, e, -⟩ := Q j; rw [e]
  have O : ∀ j, (at' (T.set n { at' T n with links := (at' T n).links - 1 }) j).opens = (at' T j).opens := fun j => by obtain ⟨l, e, -⟩ := Q j; rw [e]
  have L : ∀ j, (at' (T.set n { at' T n with links := (at' T n).links - 1 }) j).links ≤ (at' T j).links := fun j => by obtain ⟨l, e, e2, -⟩ := Q j; rw [e]; exact e2
  have L1 : ∀ j, j ≠ n → (at' (T.set n { at' T n with links := (at' T n).links - 1 }) j).links = (at' T j).links := fun j hj => by obtain ⟨l, e, -, e2, -⟩ := Q j; rw [e]; exact e2 hj
  have L2 : (at' (T.set n { at' T n with links := (at' T n).links - 1 }) n).links = (at' T n).links - 1 := by obtain ⟨l, e, -, -, e2⟩ := Q n; rw [e]; exact e2 rfl
  have N : (T.set n { at' T n with links := (at' T n).links - 1 }).length = T.length := List.length_set
  have U := usedB_set hn { at' T n with links := (at' T n).links - 1 }
  have C := cnt_same hn (x := { at' T n with links := (at' T n).links - 1 }) rfl
  generalize T.set n { at' T n with links := (at' T n).links - 1 } = T' at *
  clear A Q
  exact {
    root := by rw [N]; exact h.root
    rk := by rw [K]; exact h.rk
    rp := by rw [P]; exact h.rp
    len := by rw [N]; exact h.len
    par := fun j => by rw [P, N]; exact h.par j
    pk := fun j => by rw [P, K]; exact h.pk j
    few := fun j => by rw [E]; exact h.few j
    edg := fun j e hj => by rw [E] at hj; rw [N]; exact h.edg j e hj
    lnk := fun j hj => by rw [K] at hj; rw [D]; exact h.lnk j hj
    kd := fun j => by rw [K]; exact h.kd j
    keys := fun j e hj => by rw [E] at hj; exact h.keys j e hj
    srt := fun j => by rw [E]; exact h.srt j
    links := fun j => Nat.le_trans (L j) (h.links j)
    cn := fun m => by
      rw [C]
      by_cases e : m = n
      · subst e; rw [L2, if_neg hn0]; omega
      · rw [L1 m e]; exact h.cn m
    live := fun j hj => by
      rw [E] at hj; rw [K]
      by_cases e : j = n
      · rw [e, he] at hj; exact absurd rfl hj
      · rw [L1 j e]; exact h.live j hj
    dl := fun j hj => by rw [K] at hj; exact Nat.le_trans (L j) (h.dl j hj)
    up := fun j _ hj hl hj0 => by
      rw [K] at hj; rw [P, E]
      by_cases e : j = n
      · have := h.dl j hj
        rw [e, L2] at hl
        rw [e] at this
        omega
      · rw [L1 j e] at hl
        exact h.up j (fun a => e (hx j a)) hj hl hj0
    kz := fun j => by
      rw [K, O]
      by_cases e : j = n
      · rw [e, L2]
        have h1 := h.kz n
        constructor
        · intro a; have := h1.1 a; omega
        · intro a; exact absurd a hz
      · rw [L1 j e]; exact h.kz j
    ub := by
      have := h.ub
      have e : ({ at' T n with links := (at' T n).links - 1 } : Nd).data = (at' T n).data := rfl
      rw [e] at U
      omega
    uz := by obtain ⟨f, hf⟩ := h.uz; exact ⟨f, fun d => upZ_same P (hf d)⟩ }
/-- Node n has got the parent t. -/
theorem TIx.mv {n : Nat} (h : TIx (fun i => i = n) k kf kn T) (hn : n < T.length) (hn0 : n ≠ 0) {t : Nat} (ht : t < T.length) (hk : (at' T t).kind = 2) (he : ∃ e ∈ (at' T t).edges, e.node = n) (hw : ∀ f, (∀ d, upZ T f d) → wthB T f t n = false) :
    TIx (fun _ => False) k kf kn (T.set n { at' T n with par := t }) := by
  have A := at_upd hn { at' T n with par := t }
  have Q : ∀ j, ∃ l, at' (T.set n { at' T n with par := t }) j = { at' T j with par := l } ∧ (j ≠ n → l = (at' T j).par) ∧ (j = n → l = t) := fun j => by
    rw [A]; split
    · next e => exact ⟨t, by rw [e], fun a => absurd e a, fun _ => rfl⟩
    · next e => exact ⟨(at' T j).par, rfl, fun _ => rfl, fun a => absurd a e⟩
  have K : ∀ j, (at' (T.set n { at' T n with par := t }) j).kind = (at' T j).kind := fun j => by obtain ⟨l, e, -⟩ := Q j; rw [e]
  have E : ∀ j, (at' (T.set n { at' T n with par := t }) j).edges = (at' T j).edges := fun j => by obtain ⟨l, e, -⟩ := Q j; rw [e]
  have D : ∀ j, (at' (T.set n { at' T n with par := t }) j).data = (at' T j).data := fun j => by obtain ⟨l, e, -⟩ := Q j; rw [e]
  have O : ∀ j, (at' (T.set n { at' T n with par := t }) j).opens = (at' T j).opens := fun j => by obtain ⟨l, e, -⟩ := Q j; rw [e]
  have L : ∀ j, (at' (T.set n { at' T n with par := t }) j).links = (at' T j).links := fun j => by obtain ⟨l, e, -⟩ := Q j; rw [e]
  have P1 : ∀ j, j ≠ n → (at' (T.set n { at' T n with par := t }) j).par = (at' T j).par := fun j hj => by obtain ⟨l, e, e2, -⟩ := Q j; rw [e]; exact e2 hj
  have P2 : (at' (T.set n { at' T n with par := t }) n).par = t := by obtain ⟨l, e, -, e2⟩ := Q n; rw [e]; exact e2 rfl
  have N : (T.set n { at' T n with par := t }).length = T.length := List.length_set
  have U := usedB_set hn { at' T n with par := t }
  have C := cnt_same hn (x := { at' T n with par := t }) rfl
  generalize T.set n { at' T n with par := t } = T' at *
  clear A Q
  exact {
    root := by rw [N]; exact h.root
    rk := by rw [K]; exact h.rk
    rp := by rw [P1 0 (Ne.symm hn0)]; exact h.rp
    len := by rw [N]; exact h.len
    par := fun j => by
      rw [N]
      by_cases e : j = n
      · rw [e, P2]; exact ht
      · rw [P1 j e]; exact h.par j
    pk := fun j => by
      rw [K]
      by_cases e : j = n
      · rw [e, P2]; exact Or.inl hk
      · rw [P1 j e]; exact h.pk j
    few := fun j => by rw [E]; exact h.few j
    edg := fun j e hj => by rw [E] at hj; rw [N]; exact h.edg j e hj
    lnk := fun j hj => by rw [K] at hj; rw [D]; exact h.lnk j hj
    kd := fun j => by rw [K]; exact h.kd j
    keys := fun j e hj => by rw [E] at hj; exact h.keys j e hj
    srt := fun j => by rw [E]; exact h.srt j
    links := fun j => by rw [L]; exact h.links j
    cn := fun m => by rw [C, L]; exact h.cn m
    live := fun j hj => by rw [E] at hj; rw [K, L]; exact h.live j hj
    dl := fun j hj => by rw [K] at hj; rw [L]; exact h.dl j hj
    up := fun j _ hj hl hj0 => by
      rw [K] at hj; rw [L] at hl; rw [E]
      by_cases e : j = n
      · rw [e, P2]; exact he
      · rw [P1 j e]; exact h.up j e hj hl hj0
    kz := fun j => by rw [K, L, O]; exact h.kz j
    ub := by
      have := h.ub
      have e : ({ at' T n with par := t } : Nd).data = (at' T n).data := rfl
      rw [e] at U
      omega
    uz := by
      obtain ⟨f, hf⟩ := h.uz
      have h1 : upZ T' f t := upZ_off P1 (hf t) (hw f hf)
      exact ⟨f + f + 1, fun d => upZ_move P1 P2 h1 (hf d)⟩ }
/-- A new node without a name as yet. -/
theorem TIx.app (h : TIx (fun _ => False) k kf kn T) (x : Nd) (hk : 1 ≤ x.kind ∧ x.kind ≤ 3) (h3 : x.kind = 3 → x.data ≠ [] ∧ x.data.length ≤ 255) (hl : x.links = 1) (ho : x.opens = 0) (hp : x.par < T.length) (hpk : (at' T x.par).kind = 2) (he : x.edges = []) (hu : usedB T + blk x.data.length ≤ 512) :
    TIx (fun i => i = T.length) (k + 1) kf kn (T ++ [x]) := by
  have N : (T ++ [x]).length = T.length + 1 := by simp
  have A1 : ∀ j, j ≠ T.length → at' (T ++ [x]) j = at' T j := fun j hj => by
    rcases Nat.lt_or_ge j T.length with a | a
    · exact at_app x a
    · rw [at_ge a, at_ge (by rw [N]; omega)]
  have A2 : at' (T ++ [x]) T.length = x := at_last T x
  have U : usedB (T ++ [x]) = usedB T + blk x.data.length := by unfold usedB; simp
  have C : ∀ n, cnt (T ++ [x]) n = cnt T n := fun n => by unfold cnt; simp [ec, he]
  have hr := h.root
  have hr0 : (0 : Nat) ≠ T.length := by omega
  have nopar : ∀ i, (at' T i).par ≠ T.length := fun i => by have := h.par i; omega
  have nocnt : cnt T T.length = 0 := by
    rcases Nat.eq_zero_or_pos (cnt T T.length) with a | a
    · exact a
    · have h1 := h.cn T.length
      rw [at_ge (Nat.le_refl _)] at h1
      have : nd0.links = 0 := rfl
      omega
  generalize T ++ [x] = T' at *
  exact {
    root := by omega
    rk := by rw [A1 0 hr0]; exact h.rk
    rp := by rw [A1 0 hr0]; exact h.rp
    len := by have := h.len; omega
    par := fun j => by
      by_cases e : j = T.length
      · rw [e, A2]; omega
      · rw [A1 j e]; have := h.par j; omega
    pk := fun j => by
      by_cases e : j = T.length
      · rw [e, A2, A1 _ (by omega)]; exact Or.inl hpk
      · rw [A1 j e, A1 _ (nopar j)]; exact h.pk j
    few := fun j => by
      by_cases e : j = T.length
      · rw [e, A2, he]; exact Nat.zero_le _
      · rw [A1 j e]; exact h.few j
    edg := fun j y hj => by
      by_cases e : j = T.length
      · rw [e, A2, he] at hj; simp at hj
      · rw [A1 j e] at hj; have := h.edg j y hj; omega
    lnk := fun j hj => by
      by_cases e : j = T.length
      · rw [e, A2] at hj ⊢; exact h3 hj
      · rw [A1 j e] at hj ⊢; exact h.lnk j hj
    kd := fun j => by
      by_cases e : j = T.length
      · rw [e, A2]; exact hk.2
      · rw [A1 j e]; exact h.kd j
    keys := fun j y hj => by
      by_cases e : j = T.length
      · rw [e, A2, he] at hj; simp at hj
      · rw [A1 j e] at hj; exact h.keys j y hj
    srt := fun j => by
      by_cases e : j = T.length
      · rw [e, A2, he]; exact List.Pairwise.nil
      · rw [A1 j e]; exact h.srt j
    links := fun j => by
      by_cases e : j = T.length
      · rw [e, A2, hl]; omega
      · rw [A1 j e]; exact h.links j
    cn := fun m => by
      rw [C]
      by_cases e : m = T.length
      · rw [e, A2, hl, nocnt, if_neg (by omega)]; omega
      · rw [A1 m e]; exact h.cn m
    live := fun j hj => by
      by_cases e : j = T.length
      · rw [e, A2, he] at hj; exact absurd rfl hj
      · rw [A1 j e] at hj ⊢; exact h.live j hj
    dl := fun j hj => by
      by_cases e : j = T.length
      · rw [e, A2, hl]; exact Nat.le_refl _
      · rw [A1 j e] at hj ⊢; exact h.dl j hj
    up := fun j hx hj hl2 hj0 => by
      rw [A1 j hx] at hj hl2 ⊢
      rw [A1 _ (nopar j)]
      exact h.up j (fun a => a) hj hl2 hj0
    kz := fun j => by
      by_cases e : j = T.length
      · rw [e, A2]; constructor
        · intro a; omega
        · intro a; omega
      · rw [A1 j e]; exact h.kz j
    ub := by omega
    uz := by
      obtain ⟨f, hf⟩ := h.uz
      have h1 : ∀ {g d}, d ≠ T.length → upZ T g d → upZ T' g d := by
        intro g
        induction g with
        | zero => intro d _ a; exact a
        | succ g ih =>
          intro d hd a
          rcases a with a | a
          · exact Or.inl a
          · exact Or.inr (by rw [A1 d hd]; exact ih (nopar d) a)
      refine ⟨f + 1, fun d => ?_⟩
      by_cases e : d = T.length
      · refine Or.inr ?_
        rw [e, A2]; exact h1 (by omega) (hf _)
      · exact upZ_succ (h1 e (hf d)) }
end
end Go.Proofs.Qxb6500767a
