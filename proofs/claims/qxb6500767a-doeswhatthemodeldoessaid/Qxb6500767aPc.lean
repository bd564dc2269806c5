/- unionvfs: the rules of the tree (plain). -/
import Derived.Test.Qxb6500767aPb
namespace Go.Proofs.Qxb6500767a
open Go.RowKit Go.Qm
set_option linter.unusedVariables false
set_option linter.unusedSimpArgs false
theorem findE_key {key : List UInt8} : ∀ {l : List Edg} {i : Nat}, findE key l = some i → ∃ h : i < l.length, l[i].key = key
  | [], i, h => by cases h
  | e :: l, i, h => by
    rw [findE] at h
    split at h
    · next a => cases h; exact ⟨by simp, a⟩
    · cases hf : findE key l with
      | none => rw [hf] at h; cases h
      | some j => rw [hf] at h; cases h; obtain ⟨h1, h2⟩ := findE_key hf; exact ⟨by simp; omega, by simpa using h2⟩
theorem findE_no {key : List UInt8} : ∀ {l : List Edg}, findE key l = none → ∀ e ∈ l, e.key ≠ key
  | [], _, e, he => by simp at he
  | x :: l, h, e, he => by
    rw [findE] at h
    split at h
    · cases h
    · next a =>
      have h2 : findE key l = none := by
        cases hf : findE key l with
        | none => rfl
        | some j => rw [hf] at h; cases h
      rcases List.mem_cons.1 he with rfl | he
      · exact a
      · exact findE_no h2 e he
theorem find_mem {T : List Nd} {d i : Nat} {key : List UInt8} (h : findE key (at' T d).edges = some i) : ∃ e ∈ (at' T d).edges, e.key = key ∧ e.node = nxt T d i := by
  obtain ⟨h1, h2⟩ := findE_key h
  refine ⟨_, List.getElem_mem h1, h2, ?_⟩
  unfold nxt
  rw [List.getD_eq_getElem?_getD, List.getElem?_eq_getElem h1]; rfl
theorem srt_uniq : ∀ {l : List Edg} {a b : Edg}, (l.Pairwise fun a b => lessB a.key b.key = true) → a ∈ l → b ∈ l → a.key = b.key → a = b
  | [], a, b, _, ha, _, _ => by simp at ha
  | x :: l, a, b, h, ha, hb, e => by
    obtain ⟨h1, h2⟩ := List.pairwise_cons.1 h
    rcases List.mem_cons.1 ha with rfl | ha
    · rcases List.mem_cons.1 hb with rfl | hb
      · rfl
      · have := h1 b hb; rw [e, lessB_irrefl] at this; cases this
    · rcases List.mem_cons.1 hb with e2 | hb
      · have := h1 a ha; rw [e, e2, lessB_irrefl] at this; cases this
      · exact srt_uniq h2 ha hb e
theorem det_cnt {key : List UInt8} {n : Nat} : ∀ {es : List Edg} {e : Edg}, e ∈ es → e.key = key → e.node = n → (detE key es).countP (fun e => e.node == n) + 1 ≤ es.countP (fun e => e.node == n)
  | [], e, he, _, _ => by simp at he
  | x :: l, e, he, hk, hn => by
    have hle : ∀ m : List Edg, (detE key m).countP (fun e => e.node == n) ≤ m.countP (fun e => e.node == n) := fun m => by
      unfold detE; exact List.Sublist.countP_le List.filter_sublist
    rcases List.mem_cons.1 he with rfl | he
    · have h1 : detE key (e :: l) = detE key l := by unfold detE; rw [List.filter_cons_of_neg (by simp [hk])]
      rw [h1, List.countP_cons_of_pos (by simp [hn])]
      have := hle l; omega
    · have ih := det_cnt he hk hn
      by_cases hx : x.key = key
      · have h1 : detE key (x :: l) = detE key l := by unfold detE; rw [List.filter_cons_of_neg (by simp [hx])]
        rw [h1, List.countP_cons]; omega
      · have h1 : detE key (x :: l) = x :: detE key l := by unfold detE; rw [List.filter_cons_of_pos (by simp [hx])]
        rw [h1, List.countP_cons, List.countP_cons]; omega
theorem det_mem {key : List UInt8} {es : List Edg} {e : Edg} : e ∈ detE key es ↔ e ∈ es ∧ e.key ≠ key := by unfold detE; simp
theorem ins_mem {x e : Edg} : ∀ {l : List Edg}, e ∈ insE x l ↔ e = x ∨ e ∈ l
  | [] => by simp [insE]
  | y :: l => by
    rw [insE]
    split
    · simp
    · rw [List.mem_cons, ins_mem, List.mem_cons]
      constructor
      · rintro (a | a | a) <;> simp [a]
      · rintro (a | a | a) <;> simp [a]
theorem ins_len {x : Edg} : ∀ {l : List Edg}, (insE x l).length = l.length + 1
  | [] => rfl
  | y :: l => by
    rw [insE]
    split
    · simp
    · simp [ins_len]
theorem ins_cnt {x : Edg} {p : Edg → Bool} : ∀ {l : List Edg}, (insE x l).countP p = l.countP p + if p x = true then 1 else 0
  | [] => by simp [insE, List.countP_cons]
  | y :: l => by
    rw [insE]
    split
    · rw [List.countP_cons]
    · rw [List.countP_cons, ins_cnt, List.countP_cons]; omega
theorem ins_srt {x : Edg} : ∀ {l : List Edg}, (l.Pairwise fun a b => lessB a.key b.key = true) → (∀ e ∈ l, e.key ≠ x.key) → (insE x l).Pairwise fun a b => lessB a.key b.key = true
  | [], _, _ => by simp [insE]
  | y :: l, h, hn => by
    obtain ⟨h1, h2⟩ := List.pairwise_cons.1 h
    rw [insE]
    split
    · next a =>
      refine List.pairwise_cons.2 ⟨fun e he => ?_, h⟩
      rcases List.mem_cons.1 he with rfl | he
      · exact a
      · exact lessB_trans a (h1 e he)
    · next a =>
      refine List.pairwise_cons.2 ⟨fun e he => ?_, ins_srt h2 (fun e he => hn e (List.mem_cons_of_mem _ he))⟩
      rcases ins_mem.1 he with rfl | he
      · rcases lessB_total (hn y (by simp)) with b | b
        · exact b
        · exact absurd b a
      · exact h1 e he
section
variable {ex : Nat → Prop} {k kf kn : Nat} {T : List Nd}
theorem TIx.lt (h : TIx ex k kf kn T) {d : Nat} (hl : 1 ≤ (at' T d).links) : d < T.length := by
  rcases Nat.lt_or_ge d T.length with a | a
  · exact a
  · rw [at_ge a] at hl; exact absurd hl (by decide)
theorem TIx.det (h : TIx (fun _ => False) k kf kn T) {d : Nat} (hd : d < T.length) {key : List UInt8} {e : Edg} (he : e ∈ (at' T d).edges) (hk : e.key = key) :
    TIx (fun i => i = e.node) k kf kn (detT T d key) ∧ cnt (detT T d key) e.node + 1 ≤ cnt T e.node := by
  have hdc := det_cnt he hk rfl
  constructor
  · refine h.edges hd _ (Nat.le_refl _) ?_ ?_ ?_ ?_ ?_ (fun i a => a.elim) ?_
    · exact Nat.le_trans (List.length_filter_le _ _) (h.few d)
    · intro x hx
      have := (det_mem.1 hx).1
      exact ⟨h.edg d x this, h.keys d x this⟩
    · exact (h.srt d).sublist List.filter_sublist
    · intro n
      have h1 := h.cn n
      have h2 : (detE key (at' T d).edges).countP (fun e => e.node == n) ≤ ec n (at' T d) := List.Sublist.countP_le List.filter_sublist
      omega
    · intro a
      refine h.live d (fun b => a ?_)
      rw [b]; rfl
    · intro i hi hk2 hl hi0 hp
      obtain ⟨x, hx, hxn⟩ := h.up i (fun a => a) hk2 hl hi0
      rw [hp] at hx
      refine ⟨x, det_mem.2 ⟨hx, fun a => hi ?_⟩, hxn⟩
      rw [← hxn, srt_uniq (h.srt d) hx he (a.trans hk.symm)]
  · have := cnt_set hd { at' T d with edges := detE key (at' T d).edges } e.node
    have h1 : ec e.node { at' T d with edges := detE key (at' T d).edges } = (detE key (at' T d).edges).countP (fun x => x.node == e.node) := rfl
    have h2 : ec e.node (at' T d) = (at' T d).edges.countP (fun x => x.node == e.node) := rfl
    unfold detT
    omega
theorem TIx.att (h : TIx ex k kf kn T) {d : Nat} (hk : (at' T d).kind = 2) (hl : 1 ≤ (at' T d).links) {key : List UInt8} (hk1 : key ≠ []) (hk2 : key.length ≤ 4000) (hno : ∀ e ∈ (at' T d).edges, e.key ≠ key) (nm : List UInt8) {n : Nat} (hn : n < T.length) (hc : cnt T n + 1 + (if n = 0 then 1 else 0) ≤ (at' T n).links) :
    TIx ex k (kf + 1) kn (attT T d key nm n) := by
  have hd := h.lt hl
  refine h.edges hd _ (Nat.le_succ _) ?_ ?_ ?_ ?_ (fun _ => ⟨hl, hk⟩) (fun i a => a) ?_
  · rw [ins_len]; have := h.few d; omega
  · intro x hx
    rcases ins_mem.1 hx with rfl | hx
    · exact ⟨hn, hk1, hk2⟩
    · exact ⟨h.edg d x hx, h.keys d x hx⟩
  · exact ins_srt (h.srt d) hno
  · intro m
    rw [ins_cnt]
    have h1 := h.cn m
    have h2 : ec m (at' T d) = (at' T d).edges.countP (fun x => x.node == m) := rfl
    rw [← h2]
    by_cases e : n = m
    · subst e
      rw [if_pos (by simp)]
      omega
    · rw [if_neg (by simpa using e)]
      omega
  · intro i hi hk3 hl3 hi0 hp
    obtain ⟨x, hx, hxn⟩ := h.up i hi hk3 hl3 hi0
    rw [hp] at hx
    exact ⟨x, ins_mem.2 (Or.inr hx), hxn⟩
theorem TIx.rl (h : TIx ex k kf kn T) : 1 ≤ (at' T 0).links := by have := h.cn 0; rw [if_pos rfl] at this; omega
theorem walk_live (h : TIx (fun _ => False) k kf kn T) (fl : Bool) (hh : Nat) (todo : List (List UInt8)) (a : Nat) (ha : 1 ≤ (at' T a).links) (h3 : fl = true → (at' T a).kind ≠ 3) :
    1 ≤ (at' T (walkF T fl hh todo a).1).links ∧ (fl = true → (at' T (walkF T fl hh todo a).1).kind ≠ 3) := by
  have hr : 1 ≤ (at' T 0).links ∧ (fl = true → (at' T 0).kind ≠ 3) := ⟨h.rl, fun _ => by rw [h.rk]; decide⟩
  match todo with
  | [] => rw [wf_nil]; exact ⟨ha, h3⟩
  | name :: rest =>
    by_cases h1 : (at' T a).kind = 2
    · by_cases h2 : name = [46]
      · rw [wf_dot h1 h2]; exact walk_live h fl hh rest a ha h3
      · by_cases h3' : name = [46, 46]
        · rw [wf_dd h1 h2 h3']
          have : 1 ≤ (at' T (at' T a).par).links ∧ (at' T (at' T a).par).kind = 2 := by
            by_cases h0 : a = 0
            · rw [h0, h.rp]; exact ⟨h.rl, h.rk⟩
            · obtain ⟨e, he, -⟩ := h.up a (fun a => a) h1 ha h0
              exact h.live _ (fun b => by rw [b] at he; simp at he)
          exact walk_live h fl hh rest _ this.1 (fun _ => by rw [this.2]; decide)
        · by_cases h4 : (keyR name).1 = 0
          · cases h5 : findE (keyR name).2 (at' T a).edges with
            | none => rw [wf_no h1 h2 h3' h4 h5]; exact hr
            | some i =>
              obtain ⟨e, he, -, hen⟩ := find_mem h5
              have hl := h.held he
              rw [hen] at hl
              by_cases h6 : (at' T (nxt T a i)).kind = 3 ∧ (rest ≠ [] ∨ fl = true)
              · match hh with
                | 0 => rw [wf_loop h1 h2 h3' h4 h5 h6]; exact hr
                | hh + 1 =>
                  rw [wf_hop h1 h2 h3' h4 h5 h6]
                  exact walk_live h fl hh _ _ (by split; exact h.rl; exact ha) (fun hf => by split; rw [h.rk]; decide; rw [h1]; decide)
              · rw [wf_go h1 h2 h3' h4 h5 h6]; exact walk_live h fl hh rest _ hl (fun hf b => h6 ⟨b, Or.inr hf⟩)
          · rw [wf_bad h1 h2 h3' h4]; exact hr
    · rw [wf_dir h1]; exact hr
termination_by (hh, todo.length)
theorem path_live (h : TIx (fun _ => False) k kf kn T) (path : List UInt8) (fl : Bool) : 1 ≤ (at' T (pathF T path fl).1).links ∧ (fl = true → (at' T (pathF T path fl).1).kind ≠ 3) := by
  unfold pathF
  split
  · exact ⟨h.rl, fun _ => by show (at' T 0).kind ≠ 3; rw [h.rk]; decide⟩
  · exact walk_live h fl _ _ _ h.rl (fun _ => by rw [h.rk]; decide)
theorem par_live (h : TIx (fun _ => False) k kf kn T) {path : List UInt8} (e : (parF T path).2.2.2 = 0) : 1 ≤ (at' T (parF T path).1).links ∧ (at' T (parF T path).1).kind = 2 ∧ (parF T path).2.2.1 ≠ [] ∧ (parF T path).2.2.1.length ≤ 4000 := by
  unfold parF at *
  split at e
  · cases e
  · next h1 =>
    rw [if_neg h1]
    split at e
    · cases e
    · next h2 =>
      rw [if_neg h2]
      split at e
      · next h3 => exact absurd e h3
      · next h3 =>
        rw [if_neg h3]
        split at e
        · cases e
        · next h4 =>
          rw [if_neg h4]
          split at e
          · next h5 => exact absurd e h5
          · next h5 =>
            rw [if_neg h5]
            have h5' := keyR_ok (Decidable.not_not.1 h5)
            exact ⟨(walk_live h true _ _ _ h.rl (fun _ => by rw [h.rk]; decide)).1, by simpa using h4, h5'.1, h5'.2.1⟩
end
/-- A step that leaves what the handles hold. -/
structure NS (T T' : List Nd) : Prop where
  len : T.length ≤ T'.length
  op : ∀ i, (at' T' i).opens = (at' T i).opens
  same : ∀ i, 1 ≤ (at' T i).opens → (at' T' i).kind = (at' T i).kind ∧ (at' T' i).mode = (at' T i).mode ∧ (at' T' i).data = (at' T i).data
theorem NS.refl (T : List Nd) : NS T T := ⟨Nat.le_refl _, fun _ => rfl, fun _ _ => ⟨rfl, rfl, rfl⟩⟩
theorem NS.trans {A B C : List Nd} (h : NS A B) (g : NS B C) : NS A C :=
  ⟨Nat.le_trans h.len g.len, fun i => (g.op i).trans (h.op i), fun i hi => by
    have h1 := h.same i hi
    have h2 := g.same i (by rw [h.op]; exact hi)
    exact ⟨h2.1.trans h1.1, h2.2.1.trans h1.2.1, h2.2.2.trans h1.2.2⟩⟩
theorem NS.set {T : List Nd} {i : Nat} (hi : i < T.length) (x : Nd) (ho : x.opens = (at' T i).opens) (hs : 1 ≤ (at' T i).opens → x.kind = (at' T i).kind ∧ x.mode = (at' T i).mode ∧ x.data = (at' T i).data) : NS T (T.set i x) := by
  have A := at_upd hi x
  refine ⟨by rw [List.length_set]; exact Nat.le_refl _, fun j => ?_, fun j hj => ?_⟩
  · rw [A]; split
    · next e => rw [e, ho]
    · rfl
  · rw [A]; split
    · next e => rw [e] at hj ⊢; exact hs hj
    · exact ⟨rfl, rfl, rfl⟩
theorem NS.reap {T : List Nd} {n : Nat} (hn : n < T.length) : NS T (reapF T n) := by
  unfold reapF
  split
  · next a => exact NS.set hn nd0 a.2.symm (fun b => by omega)
  · exact NS.refl T
theorem NS.det {T : List Nd} {d : Nat} (hd : d < T.length) (key : List UInt8) : NS T (detT T d key) := NS.set hd _ rfl (fun _ => ⟨rfl, rfl, rfl⟩)
theorem NS.dec {T : List Nd} {n : Nat} (hn : n < T.length) : NS T (decL T n) := NS.set hn _ rfl (fun _ => ⟨rfl, rfl, rfl⟩)
theorem NS.att {T : List Nd} {d : Nat} (hd : d < T.length) (key nm : List UInt8) (n : Nat) : NS T (attT T d key nm n) := NS.set hd _ rfl (fun _ => ⟨rfl, rfl, rfl⟩)
theorem NS.drop {T : List Nd} {d n : Nat} (hd : d < T.length) (hn : n < T.length) (key : List UInt8) : NS T (dropT T d key n) := by
  have l1 : (detT T d key).length = T.length := List.length_set
  have l2 : (decL (detT T d key) n).length = T.length := by unfold decL; rw [List.length_set, l1]
  exact ((NS.det hd key).trans (NS.dec (by rw [l1]; exact hn))).trans (NS.reap (by rw [l2]; exact hn))
theorem NS.fin {T : List Nd} {fd td n : Nat} (hf : fd < T.length) (ht : td < T.length) (hn : n < T.length) (fk tk nm : List UInt8) : NS T (finT T fd fk td tk nm n) := by
  have l1 : (detT T fd fk).length = T.length := List.length_set
  have l2 : (attT (detT T fd fk) td tk nm n).length = T.length := by unfold attT; rw [List.length_set, l1]
  exact ((NS.det hf fk).trans (NS.att (by rw [l1]; exact ht) tk nm n)).trans (NS.set (by rw [l2]; exact hn) _ rfl (fun _ => ⟨rfl, rfl, rfl⟩))
end Go.Proofs.Qxb6500767a
