/- The plain theory: the raw directories of one directory, the entries that bear a key. -/
import Derived.Test.Qxb6500766aTx
import Derived.Test.Qxb6500766aTv
import Derived.Test.Qxb6500766aRc
import Derived.Test.Qxb6500766aKh
namespace Go.Proofs.Qxb6500766a
open Go Go.Qm
set_option linter.unusedVariables false
theorem lessB_irrefl : ∀ l, lessB l l = false
  | [] => rfl
  | a :: l => by rw [lessB, if_pos rfl]; exact lessB_irrefl l
theorem lessB_trans : ∀ {a b c : List UInt8}, lessB a b = true → lessB b c = true → lessB a c = true
  | [], _, [], h1, h2 => by cases ‹List UInt8› <;> simp [lessB] at h1 h2
  | [], _, _ :: _, _, _ => rfl
  | _ :: _, [], _, h1, _ => by simp [lessB] at h1
  | x :: a, y :: b, [], _, h2 => by simp [lessB] at h2
  | x :: a, y :: b, z :: c, h1, h2 => by
    rw [lessB] at *
    by_cases e1 : x = y
    · subst e1
      rw [if_pos rfl] at h1
      by_cases e2 : x = z
      · subst e2
        rw [if_pos rfl] at h2 ⊢
        exact lessB_trans h1 h2
      · rw [if_neg e2] at h2 ⊢
        exact h2
    · rw [if_neg e1, decide_eq_true_eq] at h1
      by_cases e2 : y = z
      · subst e2
        rw [if_neg e1, decide_eq_true_eq]
        exact h1
      · rw [if_neg e2, decide_eq_true_eq] at h2
        by_cases e3 : x = z
        · subst e3; omega
        · rw [if_neg e3, decide_eq_true_eq]; omega
theorem lessB_asymm {a b : List UInt8} (h : lessB a b = true) : lessB b a = false := by
  cases e : lessB b a with
  | false => rfl
  | true => have := lessB_trans h e; rw [lessB_irrefl] at this; cases this
theorem lessB_total : ∀ {a b : List UInt8}, a ≠ b → lessB a b = true ∨ lessB b a = true
  | [], [], h => absurd rfl h
  | [], _ :: _, _ => Or.inl rfl
  | _ :: _, [], _ => Or.inr rfl
  | x :: a, y :: b, h => by
    rw [lessB, lessB]
    by_cases e : x = y
    · subst e
      rw [if_pos rfl, if_pos rfl]
      exact lessB_total (fun q => h (by rw [q]))
    · rw [if_neg e, if_neg (fun q => e q.symm), decide_eq_true_eq, decide_eq_true_eq]
      have : x.toNat ≠ y.toNat := fun q => e (UInt8.toNat_inj.1 q)
      omega
abbrev RawE := List UInt8 × Int
abbrev Dir := Nat → List RawE
def SrtR (rs : List RawE) : Prop := rs.Pairwise (fun a b => lessB a.1 b.1 = true)
theorem mem_insR {x y : RawE} : ∀ {rs : List RawE}, y ∈ insR x rs ↔ y = x ∨ y ∈ rs
  | [] => by simp [insR]
  | r :: l => by
    rw [insR]
    split
    · simp
    · rw [List.mem_cons, mem_insR, List.mem_cons]; exact or_left_comm
theorem insR_len (x : RawE) : ∀ (rs : List RawE), (insR x rs).length = rs.length + 1
  | [] => rfl
  | r :: l => by
    rw [insR]
    split
    · simp
    · rw [List.length_cons, insR_len x l, List.length_cons]
theorem hasR_false {name : List UInt8} {rs : List RawE} : hasR name rs = false ↔ ∀ r ∈ rs, r.1 ≠ name := by
  unfold hasR
  rw [List.any_eq_false]
  simp
theorem hasR_true {name : List UInt8} {rs : List RawE} : hasR name rs = true ↔ ∃ r ∈ rs, r.1 = name := by
  unfold hasR
  rw [List.any_eq_true]
  simp
theorem SrtR.ins {x : RawE} : ∀ {rs : List RawE}, SrtR rs → hasR x.1 rs = false → SrtR (insR x rs)
  | [], _, _ => by simp [SrtR, insR]
  | r :: l, h, hn => by
    unfold SrtR at *
    rw [List.pairwise_cons] at h
    rw [hasR_false] at hn
    rw [insR]
    split
    · rename_i hlt
      rw [List.pairwise_cons, List.pairwise_cons]
      refine ⟨fun y hy => ?_, h⟩
      rcases List.mem_cons.1 hy with rfl | hy
      · exact hlt
      · exact lessB_trans hlt (h.1 y hy)
    · rename_i hlt
      rw [List.pairwise_cons]
      refine ⟨fun y hy => ?_, SrtR.ins h.2 (hasR_false.2 (fun q hq => hn q (List.mem_cons_of_mem _ hq)))⟩
      rcases mem_insR.1 hy with rfl | hy
      · rcases lessB_total (hn r (by simp)) with a | a
        · exact a
        · exact absurd a hlt
      · exact h.1 y hy
theorem SrtR.out {name : List UInt8} {rs : List RawE} (h : SrtR rs) : SrtR (outR name rs) := List.Pairwise.filter _ h
theorem SrtR.snoc {x : RawE} : ∀ {rs : List RawE}, SrtR (rs ++ [x]) → insR x rs = rs ++ [x]
  | [], _ => rfl
  | r :: l, h => by
    unfold SrtR at h
    rw [List.cons_append, List.pairwise_cons] at h
    rw [insR, if_neg (by rw [lessB_asymm (h.1 x (by simp))]; simp), List.cons_append, SrtR.snoc h.2]
/-- An entry goes to its place in the list of its key. -/
def insG (e : Ent) : List Ent → List Ent
  | [] => [e]
  | x :: l => if befE e x = true then x :: insG e l else e :: x :: l
theorem insE_eq (e : Ent) : ∀ es, insE e es = insG e es
  | [] => rfl
  | x :: l => by
    have ih := insE_eq e l
    unfold insE posE at *
    rw [insG, List.takeWhile_cons]
    split
    · rename_i h
      rw [List.length_cons, List.take_succ_cons, List.drop_succ_cons, List.cons_append, ih]
    · simp
theorem insG_pre (e : Ent) : ∀ (A B : List Ent), (∀ x ∈ A, befE e x = true) → insG e (A ++ B) = A ++ insG e B
  | [], B, _ => rfl
  | x :: A, B, h => by
    rw [List.cons_append, insG, if_pos (h x (by simp)), insG_pre e A B (fun y hy => h y (by simp [hy])), List.cons_append]
theorem insG_none (e : Ent) : ∀ (C : List Ent), (∀ x ∈ C, befE e x = false) → insG e C = e :: C
  | [], _ => rfl
  | x :: C, h => by rw [insG, if_neg (by rw [h x (by simp)]; simp)]
theorem insG_post (e : Ent) (C : List Ent) (hC : ∀ x ∈ C, befE e x = false) : ∀ (L : List Ent), insG e (L ++ C) = insG e L ++ C
  | [] => by rw [List.nil_append, insG_none e C hC]; rfl
  | x :: L => by
    rw [List.cons_append, insG, insG]
    split
    · rw [insG_post e C hC L]; rfl
    · rfl
def mkE (l : Nat) (r : RawE) : Ent := ⟨l, r.1, r.2⟩
def bearL (l : Nat) (rs : List RawE) (k : List UInt8) : List Ent := (rs.filter (fun r => keyF r.1 == some k)).map (mkE l)
def bear (D : Dir) (k : List UInt8) : List Ent := (List.range 8).flatMap (fun l => bearL l (D l) k)
def updD (D : Dir) (l : Nat) (rs : List RawE) : Dir := fun i => if i = l then rs else D i
theorem updD_self (D : Dir) (l : Nat) (rs : List RawE) : updD D l rs l = rs := if_pos rfl
theorem updD_ne (D : Dir) {l i : Nat} (rs : List RawE) (h : i ≠ l) : updD D l rs i = D i := if_neg h
theorem range_split : ∀ l, l < 8 → List.range 8 = List.range l ++ l :: List.range' (l + 1) (7 - l) := by decide
def pre (D : Dir) (l : Nat) (k : List UInt8) : List Ent := (List.range l).flatMap (fun l => bearL l (D l) k)
def post (D : Dir) (l : Nat) (k : List UInt8) : List Ent := (List.range' (l + 1) (7 - l)).flatMap (fun l => bearL l (D l) k)
theorem bear_split (D : Dir) {l : Nat} (hl : l < 8) (k : List UInt8) : bear D k = pre D l k ++ (bearL l (D l) k ++ post D l k) := by
  unfold bear pre post
  rw [range_split l hl, List.flatMap_append, List.flatMap_cons]
theorem flat_congr {α β : Type} {f g : α → List β} : ∀ {L : List α}, (∀ x ∈ L, f x = g x) → L.flatMap f = L.flatMap g
  | [], _ => rfl
  | x :: L, h => by rw [List.flatMap_cons, List.flatMap_cons, h x (by simp), flat_congr (fun y hy => h y (by simp [hy]))]
theorem pre_upd (D : Dir) (l : Nat) (rs : List RawE) (k : List UInt8) : pre (updD D l rs) l k = pre D l k := by
  unfold pre
  refine flat_congr (fun x hx => ?_)
  rw [updD_ne D rs (by have := List.mem_range.1 hx; omega)]
theorem post_upd (D : Dir) (l : Nat) (rs : List RawE) (k : List UInt8) : post (updD D l rs) l k = post D l k := by
  unfold post
  refine flat_congr (fun x hx => ?_)
  rw [updD_ne D rs (by have := List.mem_range'_1.1 hx; omega)]
theorem mem_bearL {l : Nat} {rs : List RawE} {k : List UInt8} {e : Ent} : e ∈ bearL l rs k ↔ ∃ r ∈ rs, keyF r.1 = some k ∧ e = mkE l r := by
  unfold bearL
  rw [List.mem_map]
  constructor
  · rintro ⟨r, hr, rfl⟩
    rw [List.mem_filter, beq_iff_eq] at hr
    exact ⟨r, hr.1, hr.2, rfl⟩
  · rintro ⟨r, hr, hk, rfl⟩
    exact ⟨r, List.mem_filter.2 ⟨hr, by simp [hk]⟩, rfl⟩
theorem mem_bear {D : Dir} {k : List UInt8} {e : Ent} : e ∈ bear D k ↔ ∃ l, l < 8 ∧ ∃ r ∈ D l, keyF r.1 = some k ∧ e = mkE l r := by
  unfold bear
  rw [List.mem_flatMap]
  constructor
  · rintro ⟨l, hl, he⟩; exact ⟨l, List.mem_range.1 hl, mem_bearL.1 he⟩
  · rintro ⟨l, hl, he⟩; exact ⟨l, List.mem_range.2 hl, mem_bearL.2 he⟩
theorem pre_layer {D : Dir} {l : Nat} {k : List UInt8} {e : Ent} (h : e ∈ pre D l k) : e.layer < l := by
  unfold pre at h
  rw [List.mem_flatMap] at h
  obtain ⟨i, hi, he⟩ := h
  obtain ⟨r, _, _, rfl⟩ := mem_bearL.1 he
  have := List.mem_range.1 hi
  show (i : Int) < l
  omega
theorem post_layer {D : Dir} {l : Nat} {k : List UInt8} {e : Ent} (h : e ∈ post D l k) : (l : Int) < e.layer := by
  unfold post at h
  rw [List.mem_flatMap] at h
  obtain ⟨i, hi, he⟩ := h
  obtain ⟨r, _, _, rfl⟩ := mem_bearL.1 he
  have := List.mem_range'_1.1 hi
  show (l : Int) < i
  omega
theorem bearL_cons (l : Nat) (r : RawE) (rs : List RawE) (k : List UInt8) : bearL l (r :: rs) k = if keyF r.1 = some k then mkE l r :: bearL l rs k else bearL l rs k := by
  unfold bearL
  rw [List.filter_cons]
  by_cases h : keyF r.1 = some k
  · rw [if_pos (by simp [h]), if_pos h]; rfl
  · rw [if_neg (by simpa using h), if_neg h]
theorem bef_same (l : Nat) (x r : RawE) : befE (mkE l x) (mkE l r) = lessB r.1 x.1 := by
  unfold befE befB
  exact if_pos rfl
theorem bearL_ins (l : Nat) {x : RawE} {k : List UInt8} (hk : keyF x.1 = some k) : ∀ {rs : List RawE}, SrtR rs → hasR x.1 rs = false → bearL l (insR x rs) k = insG (mkE l x) (bearL l rs k)
  | [], _, _ => by rw [insR, bearL_cons, if_pos hk]; rfl
  | r :: rs, h, hn => by
    unfold SrtR at h
    rw [List.pairwise_cons] at h
    rw [hasR_false] at hn
    rw [insR]
    split
    · rename_i hlt
      rw [bearL_cons, if_pos hk, insG_none]
      intro e he
      obtain ⟨q, hq, _, rfl⟩ := mem_bearL.1 he
      rw [bef_same]
      rcases List.mem_cons.1 hq with rfl | hq
      · exact lessB_asymm hlt
      · exact lessB_asymm (lessB_trans hlt (h.1 q hq))
    · rename_i hlt
      have ih := bearL_ins l hk h.2 (hasR_false.2 (fun q hq => hn q (List.mem_cons_of_mem _ hq)))
      have hr : lessB r.1 x.1 = true := by
        rcases lessB_total (hn r (by simp)) with a | a
        · exact a
        · exact absurd a hlt
      rw [bearL_cons, bearL_cons]
      split
      · rw [insG, if_pos (by rw [bef_same]; exact hr), ih]
      · exact ih
theorem bearL_ins_ne (l : Nat) {x : RawE} {k : List UInt8} (hk : keyF x.1 ≠ some k) : ∀ (rs : List RawE), bearL l (insR x rs) k = bearL l rs k
  | [] => by rw [insR, bearL_cons, if_neg hk]
  | r :: rs => by
    rw [insR]
    split
    · rw [bearL_cons, if_neg hk]
    · rw [bearL_cons, bearL_cons, bearL_ins_ne l hk rs]
theorem bear_add {D : Dir} {l : Nat} (hl : l < 8) {x : RawE} {k : List UInt8} (hk : keyF x.1 = some k) (hs : SrtR (D l)) (hn : hasR x.1 (D l) = false) :
    bear (updD D l (insR x (D l))) k = insE (mkE l x) (bear D k) := by
  rw [insE_eq, bear_split _ hl, bear_split D hl, pre_upd, post_upd, updD_self, bearL_ins l hk hs hn, insG_pre, insG_post]
  · intro e he
    have := post_layer he
    unfold befE befB
    rw [if_neg (by show ¬ e.layer = (l : Int); omega)]
    show decide (e.layer < (l : Int)) = false
    rw [decide_eq_false_iff_not]; omega
  · intro e he
    have := pre_layer he
    unfold befE befB
    rw [if_neg (by show ¬ e.layer = (l : Int); omega)]
    show decide (e.layer < (l : Int)) = true
    rw [decide_eq_true_eq]; omega
theorem bear_add_ne {D : Dir} {l : Nat} (hl : l < 8) {x : RawE} {k : List UInt8} (hk : keyF x.1 ≠ some k) : bear (updD D l (insR x (D l))) k = bear D k := by
  rw [bear_split _ hl, bear_split D hl, pre_upd, post_upd, updD_self, bearL_ins_ne l hk]
def offE (l : Nat) (name : List UInt8) (e : Ent) : Bool := !(decide (e.layer = (l : Int)) && (e.raw == name))
theorem filt_all {α : Type} (p : α → Bool) : ∀ (L : List α), (∀ x ∈ L, p x = true) → L.filter p = L := fun L h => List.filter_eq_self.2 h
theorem bearL_out (l : Nat) (name k : List UInt8) : ∀ (rs : List RawE), bearL l (outR name rs) k = (bearL l rs k).filter (offE l name)
  | [] => rfl
  | r :: rs => by
    have ih := bearL_out l name k rs
    unfold outR at *
    rw [List.filter_cons, bearL_cons]
    by_cases hn : r.1 = name
    · rw [if_neg (by simp [hn]), ih]
      split
      · rw [List.filter_cons, if_neg (by simp [offE, mkE, hn])]
      · rfl
    · rw [if_pos (by simpa using hn), bearL_cons, ih]
      split
      · rw [List.filter_cons, if_pos (by simp [offE, mkE, hn])]
      · rfl
theorem bear_out {D : Dir} {l : Nat} (hl : l < 8) (name k : List UInt8) : bear (updD D l (outR name (D l))) k = (bear D k).filter (offE l name) := by
  rw [bear_split _ hl, bear_split D hl, pre_upd, post_upd, updD_self, bearL_out, List.filter_append, List.filter_append, filt_all _ (pre D l k), filt_all _ (post D l k)]
  · intro e he
    have := post_layer he
    have h : decide (e.layer = (l : Int)) = false := decide_eq_false (by omega)
    simp [offE, h]
  · intro e he
    have := pre_layer he
    have h : decide (e.layer = (l : Int)) = false := decide_eq_false (by omega)
    simp [offE, h]
def SrtE (es : List Ent) : Prop := es.Pairwise (fun a b => befE b a = true)
theorem bearL_sorted (l : Nat) (k : List UInt8) {rs : List RawE} (h : SrtR rs) : SrtE (bearL l rs k) := by
  unfold SrtE bearL
  rw [List.pairwise_map]
  refine (List.Pairwise.filter _ h).imp ?_
  intro a b hab
  rw [bef_same]; exact hab
theorem flat_sorted (D : Dir) (k : List UInt8) (hs : ∀ l, l < 8 → SrtR (D l)) : ∀ (L : List Nat), L.Pairwise (· < ·) → (∀ l ∈ L, l < 8) → SrtE (L.flatMap (fun l => bearL l (D l) k))
  | [], _, _ => List.Pairwise.nil
  | l :: L, hp, h8 => by
    rw [List.pairwise_cons] at hp
    rw [List.flatMap_cons]
    unfold SrtE
    rw [List.pairwise_append]
    refine ⟨bearL_sorted l k (hs l (h8 l (by simp))), flat_sorted D k hs L hp.2 (fun x hx => h8 x (by simp [hx])), ?_⟩
    intro a ha b hb
    rw [List.mem_flatMap] at hb
    obtain ⟨i, hi, hb⟩ := hb
    obtain ⟨r, _, _, rfl⟩ := mem_bearL.1 ha
    obtain ⟨q, _, _, rfl⟩ := mem_bearL.1 hb
    have := hp.1 i hi
    unfold befE befB
    rw [if_neg (by show ¬ (l : Int) = (i : Int); omega)]
    show decide ((l : Int) < (i : Int)) = true
    rw [decide_eq_true_eq]; omega
theorem bear_sorted {D : Dir} (k : List UInt8) (hs : ∀ l, l < 8 → SrtR (D l)) : SrtE (bear D k) := flat_sorted D k hs _ (by decide) (fun l hl => List.mem_range.1 hl)
theorem befE_ne {a b : Ent} (h : befE b a = true) : ¬ (a.layer = b.layer ∧ a.raw = b.raw) := by
  rintro ⟨h1, h2⟩
  unfold befE befB at h
  rw [if_pos h1, h2, lessB_irrefl] at h
  cases h
theorem SrtE.uniq {es : List Ent} (h : SrtE es) {i j : Nat} (hi : i < es.length) (hj : j < es.length) (hl : es[i].layer = es[j].layer) (hr : es[i].raw = es[j].raw) : i = j := by
  unfold SrtE at h
  rw [List.pairwise_iff_getElem] at h
  rcases Nat.lt_trichotomy i j with a | a | a
  · exact absurd ⟨hl, hr⟩ (befE_ne (h i j hi hj a))
  · exact a
  · exact absurd ⟨hl.symm, hr.symm⟩ (befE_ne (h j i hj hi a))
theorem filt_erase {α : Type} (p : α → Bool) : ∀ (L : List α) (i : Nat) (hi : i < L.length), p L[i] = false → (∀ j (hj : j < L.length), j ≠ i → p L[j] = true) → L.filter p = L.eraseIdx i
  | [], i, hi, _, _ => by simp at hi
  | x :: L, 0, _, h0, h => by
    rw [List.filter_cons, if_neg (by simpa using h0), List.eraseIdx_cons_zero]
    refine filt_all p L (fun y hy => ?_)
    obtain ⟨j, hj, rfl⟩ := List.mem_iff_getElem.1 hy
    exact h (j + 1) (by simpa using hj) (by omega)
  | x :: L, i + 1, hi, h0, h => by
    rw [List.filter_cons, if_pos (show p x = true from h 0 (by simp) (by omega)), List.eraseIdx_cons_succ]
    rw [filt_erase p L i (by simpa using hi) (by simpa using h0) (fun j hj hne => by have := h (j + 1) (by simpa using hj) (by omega); simpa using this)]
theorem bear_erase {D : Dir} {l : Nat} (hl : l < 8) (hs : ∀ l, l < 8 → SrtR (D l)) {name k : List UInt8} {p : Nat} (hp : p < (bear D k).length) (hm : (bear D k)[p].layer = l ∧ (bear D k)[p].raw = name) :
    bear (updD D l (outR name (D l))) k = (bear D k).eraseIdx p := by
  rw [bear_out hl]
  refine filt_erase _ _ p hp (by simp [offE, hm.1, hm.2]) (fun j hj hne => ?_)
  cases e : offE l name (bear D k)[j] with
  | true => rfl
  | false =>
    simp [offE] at e
    exact absurd ((bear_sorted k hs).uniq hj hp (by rw [e.1, hm.1]) (by rw [e.2, hm.2])) hne
theorem bear_out_ne {D : Dir} {l : Nat} (hl : l < 8) {name k : List UInt8} (hk : keyF name ≠ some k) : bear (updD D l (outR name (D l))) k = bear D k := by
  rw [bear_out hl]
  refine filt_all _ _ (fun e he => ?_)
  obtain ⟨i, hi, r, hr, hk2, rfl⟩ := mem_bear.1 he
  cases h : offE l name (mkE i r) with
  | true => rfl
  | false =>
    simp [offE, mkE] at h
    exact absurd (by rw [← h.2]; exact hk2) hk
/-- All keys of a directory, one for each raw entry that has one. -/
def keysD (D : Dir) : List (List UInt8) := (List.range 8).flatMap (fun l => (D l).filterMap (fun r => keyF r.1))
theorem mem_keys {D : Dir} {k : List UInt8} : k ∈ keysD D ↔ ∃ l, l < 8 ∧ ∃ r ∈ D l, keyF r.1 = some k := by
  unfold keysD
  rw [List.mem_flatMap]
  constructor
  · rintro ⟨l, hl, he⟩
    rw [List.mem_filterMap] at he
    exact ⟨l, List.mem_range.1 hl, he⟩
  · rintro ⟨l, hl, he⟩; exact ⟨l, List.mem_range.2 hl, List.mem_filterMap.2 he⟩
theorem keys_bear {D : Dir} {k : List UInt8} : k ∈ keysD D ↔ bear D k ≠ [] := by
  rw [mem_keys]
  constructor
  · rintro ⟨l, hl, r, hr, hk⟩ he
    have := mem_bear.2 ⟨l, hl, r, hr, hk, rfl⟩
    rw [he] at this
    simp at this
  · intro h
    obtain ⟨e, he⟩ := List.exists_mem_of_ne_nil _ h
    obtain ⟨l, hl, r, hr, hk, _⟩ := mem_bear.1 he
    exact ⟨l, hl, r, hr, hk⟩
theorem flatLe {α β : Type} (f : α → List β) (n : Nat) : ∀ (L : List α), (∀ x ∈ L, (f x).length ≤ n) → (L.flatMap f).length ≤ L.length * n
  | [], _ => by simp
  | x :: L, h => by
    rw [List.flatMap_cons, List.length_append, List.length_cons, Nat.add_mul]
    have := h x (by simp)
    have := flatLe f n L (fun y hy => h y (by simp [hy]))
    omega
theorem bear_le {D : Dir} (hl : ∀ l, l < 8 → (D l).length ≤ 12) (k : List UInt8) : (bear D k).length ≤ 96 := by
  have := flatLe (fun l => bearL l (D l) k) 12 (List.range 8) (fun l h => by
    unfold bearL
    rw [List.length_map]
    exact Nat.le_trans (List.length_filter_le _ _) (hl l (List.mem_range.1 h)))
  simpa [bear] using this
theorem keys_le {D : Dir} (hl : ∀ l, l < 8 → (D l).length ≤ 12) : (keysD D).length ≤ 96 := by
  have := flatLe (fun l => (D l).filterMap (fun r => keyF r.1)) 12 (List.range 8) (fun l h => Nat.le_trans (List.length_filterMap_le _ _) (hl l (List.mem_range.1 h)))
  simpa [keysD] using this
theorem nodup_le {α : Type} [BEq α] [LawfulBEq α] : ∀ {L M : List α}, L.Nodup → (∀ x ∈ L, x ∈ M) → L.length ≤ M.length
  | [], _, _, _ => by simp
  | a :: L, M, h, hs => by
    rw [List.nodup_cons] at h
    have ha := hs a (by simp)
    have := nodup_le (M := M.erase a) h.2 (fun x hx => (List.mem_erase_of_ne (fun e => h.1 (by rw [← e]; exact hx))).2 (hs x (by simp [hx])))
    rw [List.length_erase_of_mem ha] at this
    have := List.length_pos_of_mem ha
    simp only [List.length_cons]
    omega
end Go.Proofs.Qxb6500766a
