/- The plain theory: a table that is right for the raw directories; the next key; the count. -/
import Derived.Test.Qxb6500766aPa
import Derived.Test.Qxb6500766aTy
namespace Go.Proofs.Qxb6500766a
open Go Go.Qm
set_option linter.unusedVariables false
structure Right (L : List Slot) (D : Dir) : Prop where
  es : ∀ s ∈ L, s.es = bear D s.key
  ne : ∀ s ∈ L, s.key ∈ keysD D
  all : ∀ k ∈ keysD D, ∃ s ∈ L, s.key = k
theorem Right.perm {L M : List Slot} {D : Dir} (h : Right L D) (p : L.Perm M) : Right M D :=
  ⟨fun s hs => h.es s (p.mem_iff.2 hs), fun s hs => h.ne s (p.mem_iff.2 hs), fun k hk => by obtain ⟨s, hs, e⟩ := h.all k hk; exact ⟨s, p.mem_iff.1 hs, e⟩⟩
theorem mem_LiveL {ss : List Slot} {s : Slot} : s ∈ LiveL ss ↔ s ∈ ss ∧ s.st = 1 := by
  unfold LiveL
  rw [List.mem_filter]
  simp [liveB]
theorem TV.nodup {ss : List Slot} (h : TV ss) : ((LiveL ss).map (·.key)).Nodup := by
  unfold List.Nodup
  rw [List.pairwise_map]
  have a : ss.Pairwise (fun x y => x.st = 1 → y.st = 1 → x.key ≠ y.key) := by
    rw [List.pairwise_iff_getElem]
    intro i j hi hj hij h1 h2 hk
    rw [← sl_eq hi] at h1 hk
    rw [← sl_eq hj] at h2 hk
    have := h.uniq i j hi hj h1 h2 hk
    omega
  unfold LiveL
  rw [List.pairwise_filter]
  refine a.imp ?_
  intro x y hxy h1 h2
  exact hxy (by simpa [liveB] using h1) (by simpa [liveB] using h2)
theorem Right.len {ss : List Slot} {D : Dir} (h : Right (LiveL ss) D) (tv : TV ss) (hl : ∀ l, l < 8 → (D l).length ≤ 12) : (LiveL ss).length ≤ 96 := by
  have := nodup_le (M := keysD D) tv.nodup (fun k hk => by
    rw [List.mem_map] at hk
    obtain ⟨s, hs, rfl⟩ := hk
    exact h.ne s hs)
  rw [List.length_map] at this
  have := keys_le hl
  omega
theorem Right.nil {D : Dir} (h : ∀ l, l < 8 → D l = []) : Right [] D := by
  refine ⟨by simp, by simp, fun k hk => ?_⟩
  obtain ⟨l, hl, r, hr, _⟩ := mem_keys.1 hk
  rw [h l hl] at hr
  simp at hr
theorem Right.congr {L : List Slot} {D D' : Dir} (h : Right L D) (e : ∀ l, l < 8 → D l = D' l) : Right L D' := by
  have hb : ∀ k, bear D k = bear D' k := fun k => by
    unfold bear
    exact flat_congr (fun l hl => by rw [e l (List.mem_range.1 hl)])
  have hk : keysD D = keysD D' := by
    unfold keysD
    exact flat_congr (fun l hl => by rw [e l (List.mem_range.1 hl)])
  exact ⟨fun s hs => by rw [← hb]; exact h.es s hs, fun s hs => by rw [← hk]; exact h.ne s hs, fun k hk' => h.all k (by rw [hk]; exact hk')⟩
theorem keys_add {D : Dir} {l : Nat} (hl : l < 8) (x : RawE) {k : List UInt8} : k ∈ keysD (updD D l (insR x (D l))) ↔ k ∈ keysD D ∨ keyF x.1 = some k := by
  rw [mem_keys, mem_keys]
  constructor
  · rintro ⟨i, hi, r, hr, hk⟩
    by_cases e : i = l
    · subst e
      rw [updD_self, mem_insR] at hr
      rcases hr with rfl | hr
      · exact Or.inr hk
      · exact Or.inl ⟨i, hi, r, hr, hk⟩
    · rw [updD_ne D _ e] at hr
      exact Or.inl ⟨i, hi, r, hr, hk⟩
  · rintro (⟨i, hi, r, hr, hk⟩ | hk)
    · by_cases e : i = l
      · subst e
        exact ⟨i, hi, r, by rw [updD_self, mem_insR]; exact Or.inr hr, hk⟩
      · exact ⟨i, hi, r, by rw [updD_ne D _ e]; exact hr, hk⟩
    · exact ⟨l, hl, x, by rw [updD_self, mem_insR]; exact Or.inl rfl, hk⟩
/-- A name without a key is put: nothing turns. -/
theorem Right.add_none {L : List Slot} {D : Dir} (h : Right L D) {l : Nat} (hl : l < 8) {x : RawE} (hk : keyF x.1 = none) : Right L (updD D l (insR x (D l))) := by
  refine ⟨fun s hs => ?_, fun s hs => (keys_add hl x).2 (Or.inl (h.ne s hs)), fun k hkk => ?_⟩
  · rw [bear_add_ne hl (by rw [hk]; simp)]; exact h.es s hs
  · rcases (keys_add hl x).1 hkk with a | a
    · exact h.all k a
    · rw [hk] at a; cases a
/-- A new key is put. -/
theorem Right.add_new {L L' : List Slot} {D : Dir} (h : Right L D) {l : Nat} (hl : l < 8) {x : RawE} {k : List UInt8} (hk : keyF x.1 = some k) (hs : SrtR (D l)) (hn : hasR x.1 (D l) = false)
    (habs : ∀ s ∈ L, s.key ≠ k) {s' : Slot} (hk' : s'.key = k) (he' : s'.es = [mkE l x]) (p : L'.Perm (s' :: L)) : Right L' (updD D l (insR x (D l))) := by
  have hb : bear D k = [] := by
    cases e : bear D k with
    | nil => rfl
    | cons a b =>
      obtain ⟨s, hs, q⟩ := h.all k (keys_bear.2 (by rw [e]; simp))
      exact absurd q (habs s hs)
  refine Right.perm ⟨?_, ?_, ?_⟩ p.symm
  · intro s hs'
    rcases List.mem_cons.1 hs' with rfl | hs'
    · rw [he', hk', bear_add hl hk hs hn, hb]; rfl
    · rw [bear_add_ne hl (by rw [hk]; intro q; exact habs s hs' (Option.some.inj q).symm)]
      exact h.es s hs'
  · intro s hs'
    rw [keys_add hl]
    rcases List.mem_cons.1 hs' with rfl | hs'
    · exact Or.inr (by rw [hk, hk'])
    · exact Or.inl (h.ne s hs')
  · intro q hq
    rcases (keys_add hl x).1 hq with a | a
    · obtain ⟨s, hs, e⟩ := h.all q a
      exact ⟨s, List.mem_cons_of_mem _ hs, e⟩
    · exact ⟨s', by simp, by rw [hk']; rw [hk] at a; exact Option.some.inj a⟩
/-- A key that is there gets one more entry. -/
theorem Right.add_old {L L' R : List Slot} {D : Dir} (h : Right L D) {l : Nat} (hl : l < 8) {x : RawE} {k : List UInt8} (hk : keyF x.1 = some k) (hs : SrtR (D l)) (hn : hasR x.1 (D l) = false)
    {s s' : Slot} (p : L.Perm (s :: R)) (nd : (L.map (·.key)).Nodup) (hks : s.key = k) (hk' : s'.key = k) (he' : s'.es = insE (mkE l x) s.es) (p' : L'.Perm (s' :: R)) : Right L' (updD D l (insR x (D l))) := by
  have h := h.perm p
  have nd := (p.map (·.key)).nodup nd
  rw [List.map_cons, List.nodup_cons] at nd
  have hR : ∀ q ∈ R, q.key ≠ k := fun q hq e => nd.1 (List.mem_map.2 ⟨q, hq, by rw [hks]; exact e⟩)
  refine Right.perm ⟨?_, ?_, ?_⟩ p'.symm
  · intro q hq
    rcases List.mem_cons.1 hq with rfl | hq
    · rw [he', hk', bear_add hl hk hs hn, h.es s (by simp), hks]
    · rw [bear_add_ne hl (by rw [hk]; intro e; exact hR q hq (Option.some.inj e).symm)]
      exact h.es q (by simp [hq])
  · intro q hq
    rw [keys_add hl]
    rcases List.mem_cons.1 hq with rfl | hq
    · exact Or.inr (by rw [hk, hk'])
    · exact Or.inl (h.ne q (by simp [hq]))
  · intro q hq
    by_cases e : q = k
    · exact ⟨s', by simp, by rw [hk', e]⟩
    · rcases (keys_add hl x).1 hq with a | a
      · obtain ⟨t, ht, et⟩ := h.all q a
        rcases List.mem_cons.1 ht with rfl | ht
        · rw [hks] at et; exact absurd et.symm e
        · exact ⟨t, by simp [ht], et⟩
      · rw [hk] at a; exact absurd (Option.some.inj a).symm e
theorem keys_out {D : Dir} {l : Nat} (hl : l < 8) (name : List UInt8) {k : List UInt8} : k ∈ keysD (updD D l (outR name (D l))) ↔ (bear D k).filter (offE l name) ≠ [] := by rw [keys_bear, bear_out hl]
theorem keys_out_ne {D : Dir} {l : Nat} (hl : l < 8) {name k : List UInt8} (hk : keyF name ≠ some k) : k ∈ keysD (updD D l (outR name (D l))) ↔ k ∈ keysD D := by rw [keys_bear, bear_out_ne hl hk, keys_bear]
/-- A name without a key goes: nothing turns. -/
theorem Right.out_none {L : List Slot} {D : Dir} (h : Right L D) {l : Nat} (hl : l < 8) {name : List UInt8} (hk : keyF name = none) : Right L (updD D l (outR name (D l))) := by
  refine ⟨fun s hs => ?_, fun s hs => (keys_out_ne hl (by rw [hk]; simp)).2 (h.ne s hs), fun k hkk => h.all k ((keys_out_ne hl (by rw [hk]; simp)).1 hkk)⟩
  rw [bear_out_ne hl (by rw [hk]; simp)]; exact h.es s hs
/-- The last entry of a key goes. -/
theorem Right.out_last {L L' : List Slot} {D : Dir} (h : Right L D) {l : Nat} (hl : l < 8) (hs : ∀ l, l < 8 → SrtR (D l)) {name k : List UInt8} (hk : keyF name = some k)
    {s : Slot} (p : L.Perm (s :: L')) (nd : (L.map (·.key)).Nodup) (hks : s.key = k) {i : Nat} (hi : i < s.es.length) (hm : s.es[i].layer = l ∧ s.es[i].raw = name) (h1 : s.es.length = 1) : Right L' (updD D l (outR name (D l))) := by
  have h := h.perm p
  have nd := (p.map (·.key)).nodup nd
  rw [List.map_cons, List.nodup_cons] at nd
  have hR : ∀ q ∈ L', q.key ≠ k := fun q hq e => nd.1 (List.mem_map.2 ⟨q, hq, by rw [hks]; exact e⟩)
  have hes : s.es = bear D k := by rw [h.es s (by simp), hks]
  have hb : bear (updD D l (outR name (D l))) k = [] := by
    simp only [hes] at hi hm h1
    rw [bear_erase hl hs hi hm]
    have : ((bear D k).eraseIdx i).length = 0 := by rw [List.length_eraseIdx, if_pos hi]; omega
    exact List.length_eq_zero_iff.1 this
  have hne : ∀ q, q ≠ k → keyF name ≠ some q := fun q hq e => hq (by rw [hk] at e; exact (Option.some.inj e).symm)
  refine ⟨?_, ?_, ?_⟩
  · intro q hq
    rw [bear_out_ne hl (hne _ (hR q hq))]
    exact h.es q (by simp [hq])
  · intro q hq
    rw [keys_out_ne hl (hne _ (hR q hq))]
    exact h.ne q (by simp [hq])
  · intro q hq
    by_cases e : q = k
    · rw [keys_bear, e, hb] at hq; exact absurd rfl hq
    · rw [keys_out_ne hl (hne _ e)] at hq
      obtain ⟨t, ht, et⟩ := h.all q hq
      rcases List.mem_cons.1 ht with rfl | ht
      · rw [hks] at et; exact absurd et.symm e
      · exact ⟨t, ht, et⟩
/-- One of a key's entries goes, not the last. -/
theorem Right.out_some {L L' R : List Slot} {D : Dir} (h : Right L D) {l : Nat} (hl : l < 8) (hs : ∀ l, l < 8 → SrtR (D l)) {name k : List UInt8} (hk : keyF name = some k)
    {s s' : Slot} (p : L.Perm (s :: R)) (nd : (L.map (·.key)).Nodup) (hks : s.key = k) {i : Nat} (hi : i < s.es.length) (hm : s.es[i].layer = l ∧ s.es[i].raw = name) (h1 : s.es.length ≠ 1) (hk' : s'.key = k) (he' : s'.es = s.es.eraseIdx i) (p' : L'.Perm (s' :: R)) : Right L' (updD D l (outR name (D l))) := by
  have h := h.perm p
  have nd := (p.map (·.key)).nodup nd
  rw [List.map_cons, List.nodup_cons] at nd
  have hR : ∀ q ∈ R, q.key ≠ k := fun q hq e => nd.1 (List.mem_map.2 ⟨q, hq, by rw [hks]; exact e⟩)
  have hes : s.es = bear D k := by rw [h.es s (by simp), hks]
  rw [hes] at he'
  simp only [hes] at hi hm h1
  have hb := bear_erase hl hs hi hm
  have hne : ∀ q, q ≠ k → keyF name ≠ some q := fun q hq e => hq (by rw [hk] at e; exact (Option.some.inj e).symm)
  have hkey : k ∈ keysD (updD D l (outR name (D l))) := by
    rw [keys_bear, hb]
    intro e
    have := congrArg List.length e
    rw [List.length_eraseIdx, if_pos hi] at this
    simp at this
    omega
  refine Right.perm ⟨?_, ?_, ?_⟩ p'.symm
  · intro q hq
    rcases List.mem_cons.1 hq with rfl | hq
    · rw [he', hk', hb]
    · rw [bear_out_ne hl (hne _ (hR q hq))]
      exact h.es q (by simp [hq])
  · intro q hq
    rcases List.mem_cons.1 hq with rfl | hq
    · rw [hk']; exact hkey
    · rw [keys_out_ne hl (hne _ (hR q hq))]
      exact h.ne q (by simp [hq])
  · intro q hq
    by_cases e : q = k
    · exact ⟨s', by simp, by rw [hk', e]⟩
    · rw [keys_out_ne hl (hne _ e)] at hq
      obtain ⟨t, ht, et⟩ := h.all q hq
      rcases List.mem_cons.1 ht with rfl | ht
      · rw [hks] at et; exact absurd et.symm e
      · exact ⟨t, by simp [ht], et⟩
theorem bear_at {D : Dir} {l : Nat} (hl : l < 8) {name k : List UInt8} (hk : keyF name = some k) (hh : hasR name (D l) = true) : ∃ p, ∃ (hp : p < (bear D k).length), (bear D k)[p].layer = l ∧ (bear D k)[p].raw = name := by
  obtain ⟨r, hr, rfl⟩ := hasR_true.1 hh
  obtain ⟨p, hp, e⟩ := List.mem_iff_getElem.1 (mem_bear.2 ⟨l, hl, r, hr, hk, rfl⟩)
  exact ⟨p, hp, by rw [e]; exact ⟨rfl, rfl⟩⟩
/-- The next key. -/
def stepK (after : List UInt8) (acc : Option (List UInt8)) (k : List UInt8) : Option (List UInt8) :=
  if lessB after k = true then (match acc with | none => some k | some b => if lessB k b = true then some k else some b) else acc
def nextK (D : Dir) (after : List UInt8) : Option (List UInt8) := (keysD D).foldl (stepK after) none
def IsNext (L : List (List UInt8)) (after : List UInt8) : Option (List UInt8) → Prop
  | none => ∀ k ∈ L, lessB after k = false
  | some m => m ∈ L ∧ lessB after m = true ∧ ∀ k ∈ L, lessB after k = true → k = m ∨ lessB m k = true
theorem next_step {L : List (List UInt8)} {after k : List UInt8} {acc : Option (List UInt8)} (h : IsNext L after acc) : IsNext (L ++ [k]) after (stepK after acc k) := by
  unfold stepK
  split
  · rename_i hlt
    cases acc with
    | none =>
      refine ⟨by simp, hlt, fun q hq hq2 => ?_⟩
      rcases List.mem_append.1 hq with a | a
      · have h' : ∀ k ∈ L, lessB after k = false := h
        rw [h' q a] at hq2; cases hq2
      · exact Or.inl (by simpa using a)
    | some m =>
      obtain ⟨h1, h2, h3⟩ := h
      dsimp only
      split
      · rename_i hkm
        refine ⟨by simp, hlt, fun q hq hq2 => ?_⟩
        rcases List.mem_append.1 hq with a | a
        · rcases h3 q a hq2 with rfl | e
          · exact Or.inr hkm
          · exact Or.inr (lessB_trans hkm e)
        · exact Or.inl (by simpa using a)
      · rename_i hkm
        refine ⟨by simp [h1], h2, fun q hq hq2 => ?_⟩
        rcases List.mem_append.1 hq with a | a
        · exact h3 q a hq2
        · have e : q = k := by simpa using a
          subst e
          by_cases e2 : q = m
          · exact Or.inl e2
          · rcases lessB_total e2 with b | b
            · exact absurd b hkm
            · exact Or.inr b
  · rename_i hlt
    cases acc with
    | none =>
      intro q hq
      rcases List.mem_append.1 hq with a | a
      · exact h q a
      · have e : q = k := by simpa using a
        subst e
        simpa using hlt
    | some m =>
      obtain ⟨h1, h2, h3⟩ := h
      refine ⟨by simp [h1], h2, fun q hq hq2 => ?_⟩
      rcases List.mem_append.1 hq with a | a
      · exact h3 q a hq2
      · have e : q = k := by simpa using a
        subst e
        exact absurd hq2 hlt
theorem next_fold (after : List UInt8) : ∀ (L M : List (List UInt8)) (acc : Option (List UInt8)), IsNext M after acc → IsNext (M ++ L) after (L.foldl (stepK after) acc)
  | [], M, acc, h => by rw [List.append_nil]; exact h
  | k :: L, M, acc, h => by
    have := next_fold after L (M ++ [k]) _ (next_step (k := k) h)
    rw [List.append_assoc] at this
    exact this
theorem next_spec (L : List (List UInt8)) (after : List UInt8) : IsNext L after (L.foldl (stepK after) none) := by
  have := next_fold after L [] none (by intro k hk; simp at hk)
  simpa using this
theorem next_uniq {L M : List (List UInt8)} {after : List UInt8} {o o' : Option (List UInt8)} (hm : ∀ k, k ∈ L ↔ k ∈ M) (h : IsNext L after o) (h' : IsNext M after o') : o = o' := by
  cases o with
  | none =>
    cases o' with
    | none => rfl
    | some m =>
      have a : ∀ k ∈ L, lessB after k = false := h
      have b : lessB after m = true := h'.2.1
      rw [a m ((hm m).2 h'.1)] at b
      cases b
  | some m =>
    cases o' with
    | none =>
      have a : ∀ k ∈ M, lessB after k = false := h'
      have b : lessB after m = true := h.2.1
      rw [a m ((hm m).1 h.1)] at b
      cases b
    | some n =>
      rcases h.2.2 n ((hm n).2 h'.1) h'.2.1 with e | e
      · rw [e]
      · rcases h'.2.2 m ((hm m).1 h.1) h.2.1 with e2 | e2
        · rw [e2]
        · rw [lessB_asymm e] at e2; cases e2
theorem nextK_spec (D : Dir) (after : List UInt8) : IsNext (keysD D) after (nextK D after) := next_spec _ _
theorem abv_fold (after : List UInt8) : ∀ (ss : List Slot) (acc : Option (List UInt8)), ss.foldl (abvS after) acc = ((LiveL ss).map (·.key)).foldl (stepK after) acc
  | [], acc => rfl
  | s :: ss, acc => by
    unfold LiveL
    rw [List.foldl_cons, List.filter_cons, abv_fold after ss]
    by_cases h1 : s.st = 1
    · rw [if_pos (by simp [liveB, h1]), List.map_cons, List.foldl_cons]
      have : abvS after acc s = stepK after acc s.key := by
        unfold abvS stepK
        by_cases h2 : lessB after s.key = true
        · rw [if_pos ⟨h1, h2⟩, if_pos h2]; rfl
        · rw [if_neg (fun a => h2 a.2), if_neg h2]
      rw [this]; rfl
    · rw [if_neg (by simp [liveB, h1]), abvS_skip (fun a => h1 a.1)]; rfl
theorem Right.mem {L : List Slot} {D : Dir} (h : Right L D) (k : List UInt8) : k ∈ L.map (·.key) ↔ k ∈ keysD D := by
  rw [List.mem_map]
  constructor
  · rintro ⟨s, hs, rfl⟩; exact h.ne s hs
  · intro hk; exact h.all k hk
theorem Right.above {ss : List Slot} {D : Dir} (h : Right (LiveL ss) D) (after : List UInt8) : aboveF ss after = nextK D after := by
  unfold aboveF
  rw [abv_fold]
  exact next_uniq h.mem (next_spec _ _) (nextK_spec D after)
/-- The number of keys. -/
def cntK (D : Dir) : Nat := (keysD D).eraseDups.length
theorem nodup_eraseDups {α : Type} [BEq α] [LawfulBEq α] : ∀ (n : Nat) (L : List α), L.length ≤ n → L.eraseDups.Nodup
  | _, [], _ => by simp
  | 0, _ :: _, h => by simp at h
  | n + 1, a :: L, h => by
    rw [List.eraseDups_cons, List.nodup_cons]
    refine ⟨by simp, nodup_eraseDups n _ (Nat.le_trans (List.length_filter_le _ _) (by simpa using h))⟩
theorem nodup_eq {α : Type} [BEq α] [LawfulBEq α] {L M : List α} (h1 : L.Nodup) (h2 : M.Nodup) (h : ∀ x, x ∈ L ↔ x ∈ M) : L.length = M.length :=
  Nat.le_antisymm (nodup_le h1 (fun x hx => (h x).1 hx)) (nodup_le h2 (fun x hx => (h x).2 hx))
theorem cntK_eq {D : Dir} {L : List (List UInt8)} (h : L.Nodup) (hm : ∀ k, k ∈ L ↔ k ∈ keysD D) : L.length = cntK D :=
  nodup_eq h (nodup_eraseDups _ _ (Nat.le_refl _)) (fun x => by rw [hm, List.mem_eraseDups])
theorem Right.count {ss : List Slot} {D : Dir} (h : Right (LiveL ss) D) (tv : TV ss) : (LiveL ss).length = cntK D := by
  rw [← cntK_eq tv.nodup h.mem, List.length_map]
end Go.Proofs.Qxb6500766a
