/- unionvfs: the rules of the tree (plain). -/
import Derived.Test.Qxb6500767aPc
namespace Go.Proofs.Qxb6500767a
open Go.RowKit Go.Qm
set_option linter.unusedVariables false
set_option linter.unusedSimpArgs false
section
variable {ex : Nat → Prop} {k kf kn : Nat} {T : List Nd}
theorem TIx.nz (h : TIx ex k kf kn T) {n : Nat} (hl : 1 ≤ (at' T n).links) : (at' T n).kind ≠ 0 := fun a => by have := (h.kz n).1 a; omega
theorem drop_ti (h : TIx (fun _ => False) k kf kn T) {d : Nat} {key : List UInt8} {e : Edg} (he : e ∈ (at' T d).edges) (hk : e.key = key) (hn : (at' T e.node).edges = []) : TIx (fun _ => False) k kf kn (dropT T d key e.node) := by
  have hne : (at' T d).edges ≠ [] := fun a => by rw [a] at he; simp at he
  have hd := h.lt (h.live d hne).1
  have hdn : d ≠ e.node := fun a => by rw [← a] at hn; exact hne hn
  obtain ⟨h1, h2⟩ := h.det hd he hk
  have hnl : e.node < T.length := h.edg d e he
  have hn0 := h.noroot he
  have hcn := h.cn e.node
  rw [if_neg hn0] at hcn
  have e1 : at' (detT T d key) e.node = at' T e.node := at_set_ne hdn _
  have l1 : (detT T d key).length = T.length := List.length_set
  unfold dropT reapF
  have e2 : at' (decL (detT T d key) e.node) e.node = { at' T e.node with links := (at' T e.node).links - 1 } := by
    unfold decL; rw [at_set (by rw [l1]; exact hnl), e1]
  rw [e2]
  simp only
  split
  · next a =>
    unfold decL
    rw [List.set_set]
    exact h1.zero (by rw [l1]; exact hnl) hn0 (by rw [e1]; exact hn) (by omega) (fun i a => a)
  · next a =>
    unfold decL
    refine h1.dec (by rw [l1]; exact hnl) hn0 (by rw [e1]; exact hn) (by rw [e1]; omega) (fun i a => a) (by rw [e1]; exact a)
theorem TIx.leaf (h : TIx ex k kf kn T) {n : Nat} (hk : (at' T n).kind ≠ 2) : (at' T n).edges = [] := by
  cases e : (at' T n).edges with
  | nil => rfl
  | cons a l => exact absurd (h.live n (by rw [e]; simp)).2 hk
theorem unl_ti (h : TIx (fun _ => False) k kf kn T) (path : List UInt8) : TIx (fun _ => False) k kf kn (unlT T path).1 ∧ NS T (unlT T path).1 := by
  unfold unlT
  split
  · exact ⟨h, NS.refl T⟩
  · split
    · exact ⟨h, NS.refl T⟩
    · next i hi =>
      obtain ⟨e, he, hk, hen⟩ := find_mem hi
      split
      · exact ⟨h, NS.refl T⟩
      · next a =>
        rw [← hen] at a ⊢
        have hne : (at' T (parF T path).1).edges ≠ [] := fun a => by rw [a] at he; simp at he
        exact ⟨drop_ti h he hk (h.leaf a), NS.drop (h.lt (h.live _ hne).1) (h.edg _ e he) _⟩
theorem rmd_ti (h : TIx (fun _ => False) k kf kn T) (path : List UInt8) : TIx (fun _ => False) k kf kn (rmdT T path).1 ∧ NS T (rmdT T path).1 := by
  unfold rmdT
  split
  · exact ⟨h, NS.refl T⟩
  · split
    · exact ⟨h, NS.refl T⟩
    · next i hi =>
      obtain ⟨e, he, hk, hen⟩ := find_mem hi
      split
      · exact ⟨h, NS.refl T⟩
      · split
        · exact ⟨h, NS.refl T⟩
        · next a =>
          rw [← hen] at a ⊢
          have hne : (at' T (parF T path).1).edges ≠ [] := fun a => by rw [a] at he; simp at he
          exact ⟨drop_ti h he hk (Decidable.not_not.1 a), NS.drop (h.lt (h.live _ hne).1) (h.edg _ e he) _⟩
theorem make_ti (h : TIx (fun _ => False) k kf kn T) (path : List UInt8) {kd : Nat} (hkd : 1 ≤ kd ∧ kd ≤ 3) (mode : Int) {data : List UInt8} (h3 : kd = 3 → data ≠ [] ∧ data.length ≤ 255) :
    TIx (fun _ => False) (k + 1) (kf + 1) kn (makeT T path kd mode data).1 ∧ NS T (makeT T path kd mode data).1 ∧ (makeT T path kd mode data).1.length ≤ T.length + 1 ∧
      ((makeT T path kd mode data).2.2 ≠ 0 → (makeT T path kd mode data).1 = T ∧ (makeT T path kd mode data).2.1 = 0) ∧
      ((makeT T path kd mode data).2.2 = 0 → (makeT T path kd mode data).2.1 = T.length ∧ (makeT T path kd mode data).1.length = T.length + 1 ∧ (at' (makeT T path kd mode data).1 T.length).opens = 0 ∧ (at' (makeT T path kd mode data).1 T.length).kind = kd ∧ (at' (makeT T path kd mode data).1 T.length).links = 1) := by
  have hm : TIx (fun _ => False) (k + 1) (kf + 1) kn T := h.more (Nat.le_succ _) (Nat.le_succ _) (Nat.le_refl _)
  unfold makeT
  split
  · next a => exact ⟨hm, NS.refl T, Nat.le_succ _, fun _ => ⟨rfl, rfl⟩, fun b => absurd b a⟩
  · next a =>
    have hp := par_live h (Decidable.not_not.1 a)
    split
    · exact ⟨hm, NS.refl T, Nat.le_succ _, fun _ => ⟨rfl, rfl⟩, fun b => by cases b⟩
    · next b =>
      split
      · exact ⟨hm, NS.refl T, Nat.le_succ _, fun _ => ⟨rfl, rfl⟩, fun b => by cases b⟩
      · next c =>
        have hd := h.lt hp.1
        generalize (parF T path).1 = d at *
        generalize (parF T path).2.1 = nm at *
        generalize (parF T path).2.2.1 = key at *
        obtain ⟨x, hx⟩ : ∃ x : Nd, x = ⟨kd, mode, 1, 0, d, data, []⟩ := ⟨_, rfl⟩
        have ub := h.ub
        have h1 := h.app x (by rw [hx]; exact hkd) (by rw [hx]; exact h3) (by rw [hx]) (by rw [hx]) (by rw [hx]; exact hd) (by rw [hx]; exact hp.2.1) (by rw [hx]) (by rw [hx]; simp only; omega)
        have hdl : d ≠ T.length := by omega
        have e1 : at' (T ++ [x]) d = at' T d := at_app x hd
        have e2 : at' (T ++ [x]) T.length = x := at_last T x
        have n1 : (T ++ [x]).length = T.length + 1 := by simp
        have hc : cnt (T ++ [x]) T.length = 0 := by
          have hh : cnt (T ++ [x]) T.length = cnt T T.length := by unfold cnt; simp [ec, hx]
          rcases Nat.eq_zero_or_pos (cnt T T.length) with a | a
          · omega
          · have h1 := h.cn T.length
            rw [at_ge (Nat.le_refl _)] at h1
            have : nd0.links = 0 := rfl
            omega
        have hno : ∀ e ∈ (at' T d).edges, e.key ≠ key := by
          have : findE key (at' T d).edges = none := by
            cases q : findE key (at' T d).edges with
            | none => rfl
            | some i => rw [q] at b; exact absurd rfl b
          exact findE_no this
        have hr := h.root
        have h2 := h1.att (d := d) (by rw [e1]; exact hp.2.1) (by rw [e1]; exact hp.1) hp.2.2.1 hp.2.2.2 (by rw [e1]; exact hno) nm (n := T.length) (by omega) (by rw [hc, e2, if_neg (by omega), hx]; exact Nat.le_refl _)
        rw [← hx]
        have e3 : newT T d nm key x = attT (T ++ [x]) d key nm T.length := rfl
        simp only
        rw [e3]
        have d1 : d < (T ++ [x]).length := by omega
        have A := at_upd d1 { at' (T ++ [x]) d with edges := insE ⟨key, nm, T.length⟩ (at' (T ++ [x]) d).edges }
        have e4 : at' (attT (T ++ [x]) d key nm T.length) T.length = x := by unfold attT; rw [A, if_neg (Ne.symm hdl), e2]
        have e5 : at' (attT (T ++ [x]) d key nm T.length) d = { at' T d with edges := insE ⟨key, nm, T.length⟩ (at' T d).edges } := by unfold attT; rw [A, if_pos rfl, e1]
        have n2 : (attT (T ++ [x]) d key nm T.length).length = T.length + 1 := by unfold attT; rw [List.length_set, n1]
        refine ⟨{ h2 with up := fun i _ hk hl hi0 => ?_ }, ?_, by omega, fun q => absurd rfl q, fun _ => ⟨trivial, n2, by rw [e4, hx], by rw [e4, hx], by rw [e4, hx]⟩⟩
        · by_cases hi : i = T.length
          · have hxp : x.par = d := by rw [hx]
            rw [hi, e4, hxp, e5]
            exact ⟨_, ins_mem.2 (Or.inl rfl), rfl⟩
          · exact h2.up i hi hk hl hi0
        · have na : NS T (T ++ [x]) := by
            refine ⟨by omega, fun i => ?_, fun i hi => ?_⟩
            · rcases Nat.lt_trichotomy i T.length with a | a | a
              · rw [at_app x a]
              · rw [a, e2, hx, at_ge (Nat.le_refl _)]; rfl
              · rw [at_ge (T := T) (by omega), at_ge (by omega)]
            · rcases Nat.lt_or_ge i T.length with a | a
              · rw [at_app x a]; exact ⟨rfl, rfl, rfl⟩
              · rw [at_ge a] at hi; exact absurd hi (by decide)
          exact na.trans (NS.att d1 key nm T.length)
theorem sym_ti (h : TIx (fun _ => False) k kf kn T) (target path : List UInt8) : TIx (fun _ => False) (k + 1) (kf + 1) kn (symT T target path).1 ∧ NS T (symT T target path).1 := by
  have hm : TIx (fun _ => False) (k + 1) (kf + 1) kn T := h.more (Nat.le_succ _) (Nat.le_succ _) (Nat.le_refl _)
  unfold symT
  split
  · exact ⟨hm, NS.refl T⟩
  · next a =>
    split
    · exact ⟨hm, NS.refl T⟩
    · next b =>
      have := make_ti h path (kd := 3) (by decide) 511 (data := target) (fun _ => ⟨a, by omega⟩)
      exact ⟨this.1, this.2.1⟩
theorem link_ti (h : TIx (fun _ => False) k kf kn T) (old path : List UInt8) : TIx (fun _ => False) k (kf + 1) (kn + 1) (linkT T old path).1 ∧ NS T (linkT T old path).1 := by
  have hm : TIx (fun _ => False) k (kf + 1) (kn + 1) T := h.more (Nat.le_refl _) (Nat.le_succ _) (Nat.le_succ _)
  unfold linkT
  split
  · exact ⟨hm, NS.refl T⟩
  · split
    · exact ⟨hm, NS.refl T⟩
    · next hk2 =>
      split
      · exact ⟨hm, NS.refl T⟩
      · next a =>
        have hp := par_live h (Decidable.not_not.1 a)
        split
        · exact ⟨hm, NS.refl T⟩
        · next b =>
          have hl := (path_live h old false).1
          have hnl := h.lt hl
          have hd := h.lt hp.1
          generalize (pathF T old false).1 = n at *
          generalize (parF T path).1 = d at *
          generalize (parF T path).2.1 = nm at *
          generalize (parF T path).2.2.1 = key at *
          have hnz := h.nz hl
          have hno : ∀ e ∈ (at' T d).edges, e.key ≠ key := by
            have : findE key (at' T d).edges = none := by
              cases q : findE key (at' T d).edges with
              | none => rfl
              | some i => rw [q] at b; exact absurd rfl b
            exact findE_no this
          have hn0 : n ≠ 0 := fun q => by rw [q] at hk2; exact hk2 h.rk
          have hll := h.links n
          have hub := h.ub
          have h1 := h.num hnl { at' T n with links := (at' T n).links + 1 } rfl rfl rfl (h.lnk n) (kn' := kn + 1) (Nat.le_succ _) (by show (at' T n).links + 1 ≤ _; omega) (Nat.le_succ _) (fun q => absurd q hk2) ⟨fun q => absurd q hnz, fun q => by have q1 := q.1; simp at q1⟩ (Nat.le_trans (Nat.le_of_eq (usedB_same hnl (x := { at' T n with links := (at' T n).links + 1 }) rfl)) hub)
          have hdn : d ≠ n := fun q => by rw [← q] at hk2; exact hk2 hp.2.1
          have e1 : at' (T.set n { at' T n with links := (at' T n).links + 1 }) d = at' T d := at_set_ne (Ne.symm hdn) _
          have e2 : at' (T.set n { at' T n with links := (at' T n).links + 1 }) n = { at' T n with links := (at' T n).links + 1 } := at_set hnl _
          have hc := cnt_same hnl (x := { at' T n with links := (at' T n).links + 1 }) rfl n
          have hcn := h.cn n
          rw [if_neg hn0] at hcn
          refine ⟨h1.att (d := d) (n := n) (by rw [e1]; exact hp.2.1) (by rw [e1]; exact hp.1) hp.2.2.1 hp.2.2.2 (by rw [e1]; exact hno) nm (by rw [List.length_set]; exact hnl) (by rw [if_neg hn0]; refine Nat.le_trans ?_ (Nat.le_of_eq (congrArg Nd.links e2).symm); show _ + 1 + 0 ≤ (at' T n).links + 1; omega), ?_⟩
          exact (NS.set hnl { at' T n with links := (at' T n).links + 1 } rfl (fun _ => ⟨rfl, rfl, rfl⟩)).trans (NS.att (d := d) (by rw [List.length_set]; exact hd) key nm n)
theorem wthB_fuel {T : List Nd} {n : Nat} : ∀ {f g d : Nat}, upZ T f d → upZ T g d → wthB T f d n = wthB T g d n
  | 0, 0, d, _, _ => rfl
  | 0, g + 1, d, h, _ => by
    cases h
    rw [wthB, wthB]
    by_cases e : 0 = n
    · rw [if_pos e]; simpa using e
    · rw [if_neg e, if_pos rfl]; simpa using e
  | f + 1, 0, d, _, h => by
    cases h
    rw [wthB, wthB]
    by_cases e : 0 = n
    · rw [if_pos e]; simpa using e
    · rw [if_neg e, if_pos rfl]; simpa using e
  | f + 1, g + 1, d, h1, h2 => by
    rw [wthB, wthB]
    by_cases e : d = n
    · rw [if_pos e, if_pos e]
    · rw [if_neg e, if_neg e]
      by_cases e0 : d = 0
      · rw [if_pos e0, if_pos e0]
      · rw [if_neg e0, if_neg e0]
        exact wthB_fuel (h1.resolve_left e0) (h2.resolve_left e0)
theorem wthB_cut {T T' : List Nd} {n : Nat} (hn : n ≠ 0) (hp : ∀ i, (at' T' i).par = (at' T i).par ∨ (at' T' i).par = 0) : ∀ {f d : Nat}, wthB T f d n = false → wthB T' f d n = false
  | 0, d, h => h
  | f + 1, d, h => by
    rw [wthB] at *
    by_cases e : d = n
    · rw [if_pos e] at h; cases h
    · rw [if_neg e] at h ⊢
      by_cases e0 : d = 0
      · rw [if_pos e0]
      · rw [if_neg e0] at h ⊢
        rcases hp d with q | q
        · rw [q]; exact wthB_cut hn hp h
        · rw [q]; cases f <;> simp [wthB, Ne.symm hn]
theorem fin_ti (h : TIx (fun _ => False) k kf kn T) {fd td : Nat} {fk tk : List UInt8} (nm : List UInt8) {e : Edg} (he : e ∈ (at' T fd).edges) (hk : e.key = fk) (htk : (at' T td).kind = 2) (htl : 1 ≤ (at' T td).links) (h1 : tk ≠ []) (h2 : tk.length ≤ 4000) (hno : ∀ x ∈ (at' T td).edges, x.key ≠ tk)
    {f : Nat} (hf : ∀ d, upZ T f d) (hw : wthB T f td e.node = false) : TIx (fun _ => False) k (kf + 1) kn (finT T fd fk td tk nm e.node) := by
  have hne : (at' T fd).edges ≠ [] := fun a => by rw [a] at he; simp at he
  have hfd := h.lt (h.live fd hne).1
  have htd := h.lt htl
  have hnl : e.node < T.length := h.edg fd e he
  have hn0 := h.noroot he
  have hcn := h.cn e.node
  rw [if_neg hn0] at hcn
  obtain ⟨d1, d2⟩ := h.det hfd he hk
  have l1 : (detT T fd fk).length = T.length := List.length_set
  have A := at_upd hfd { at' T fd with edges := detE fk (at' T fd).edges }
  have K : ∀ j, (at' (detT T fd fk) j).kind = (at' T j).kind ∧ (at' (detT T fd fk) j).links = (at' T j).links ∧ (at' (detT T fd fk) j).par = (at' T j).par ∧ ∀ x ∈ (at' (detT T fd fk) j).edges, x ∈ (at' T j).edges := fun j => by
    unfold detT; rw [A]
    split
    · next q => rw [q]; exact ⟨rfl, rfl, rfl, fun x hx => (det_mem.1 hx).1⟩
    · exact ⟨rfl, rfl, rfl, fun x hx => hx⟩
  unfold finT
  generalize detT T fd fk = T1 at *
  have d3 := d1.att (d := td) (by rw [(K td).1]; exact htk) (by rw [(K td).2.1]; exact htl) h1 h2 (fun x hx => hno x ((K td).2.2.2 x hx)) nm (n := e.node) (by rw [l1]; exact hnl) (by rw [(K _).2.1, if_neg hn0]; omega)
  have l2 : (attT T1 td tk nm e.node).length = T.length := by unfold attT; rw [List.length_set, l1]
  have B := at_upd (T := T1) (i := td) (by rw [l1]; exact htd) { at' T1 td with edges := insE ⟨tk, nm, e.node⟩ (at' T1 td).edges }
  have M : ∀ j, (at' (attT T1 td tk nm e.node) j).kind = (at' T j).kind ∧ (at' (attT T1 td tk nm e.node) j).par = (at' T j).par := fun j => by
    unfold attT; rw [B]
    split
    · next q => rw [q]; exact ⟨(K td).1, (K td).2.2.1⟩
    · exact ⟨(K j).1, (K j).2.2.1⟩
  have M2 : (at' (attT T1 td tk nm e.node) td).edges = insE ⟨tk, nm, e.node⟩ (at' T1 td).edges := by unfold attT; rw [B, if_pos rfl]
  refine d3.mv (by rw [l2]; exact hnl) hn0 (by rw [l2]; exact htd) (by rw [(M td).1]; exact htk) ⟨⟨tk, nm, e.node⟩, by rw [M2]; exact ins_mem.2 (Or.inl rfl), rfl⟩ (fun g hg => ?_)
  have c1 := wthB_cut hn0 (T' := attT T1 td tk nm e.node) (fun i => Or.inl (M i).2) hw
  rw [← wthB_fuel (upZ_same (fun i => (M i).2) (hf td)) (hg td)]
  exact c1
theorem spl_ti (h : TIx (fun _ => False) k kf kn T) {d i : Nat} {key : List UInt8} (hi : findE key (at' T d).edges = some i) (nm : List UInt8) : TIx (fun _ => False) k kf kn (T.set d { at' T d with edges := splE (at' T d).edges i nm }) := by
  obtain ⟨h1, h2⟩ := findE_key hi
  have hne : (at' T d).edges ≠ [] := fun a => by rw [a] at h1; simp at h1
  have hd := h.lt (h.live d hne).1
  rw [splE_get h1]
  obtain ⟨es, hes⟩ : ∃ es, es = (at' T d).edges.set i ⟨(at' T d).edges[i].key, nm, (at' T d).edges[i].node⟩ := ⟨_, rfl⟩
  have m1 : es.map (fun e => (e.key, e.node)) = (at' T d).edges.map (fun e => (e.key, e.node)) := by
    rw [hes, List.map_set]
    simp only
    have : ((at' T d).edges.map fun e => (e.key, e.node))[i]'(by simpa using h1) = ((at' T d).edges[i].key, (at' T d).edges[i].node) := by simp
    rw [← this, List.set_getElem_self]
  have mem : ∀ x ∈ es, ∃ y ∈ (at' T d).edges, y.key = x.key ∧ y.node = x.node := fun x hx => by
    have : (x.key, x.node) ∈ es.map (fun e => (e.key, e.node)) := List.mem_map.2 ⟨x, hx, rfl⟩
    rw [m1] at this
    obtain ⟨y, hy, e⟩ := List.mem_map.1 this
    exact ⟨y, hy, congrArg Prod.fst e, congrArg Prod.snd e⟩
  have mem2 : ∀ y ∈ (at' T d).edges, ∃ x ∈ es, x.node = y.node := fun y hy => by
    have : (y.key, y.node) ∈ (at' T d).edges.map (fun e => (e.key, e.node)) := List.mem_map.2 ⟨y, hy, rfl⟩
    rw [← m1] at this
    obtain ⟨x, hx, e⟩ := List.mem_map.1 this
    exact ⟨x, hx, congrArg Prod.snd e⟩
  rw [← hes]
  refine h.edges hd es (Nat.le_refl _) ?_ ?_ ?_ ?_ (fun _ => h.live d hne) (fun i a => a) ?_
  · rw [hes, List.length_set]; exact h.few d
  · intro x hx
    obtain ⟨y, hy, e1, e2⟩ := mem x hx
    rw [← e1, ← e2]
    exact ⟨h.edg d y hy, h.keys d y hy⟩
  · have p1 : ((at' T d).edges.map (fun e => (e.key, e.node))).Pairwise (fun a b => lessB a.1 b.1 = true) := List.pairwise_map.2 (h.srt d)
    rw [← m1] at p1
    exact List.pairwise_map.1 p1
  · intro n
    have c1 : es.countP (fun e => e.node == n) = ec n (at' T d) := by
      have q1 : (es.map (fun e => (e.key, e.node))).countP (fun p => p.2 == n) = es.countP (fun e => e.node == n) := by rw [List.countP_map]; rfl
      have q2 : ((at' T d).edges.map (fun e => (e.key, e.node))).countP (fun p => p.2 == n) = ec n (at' T d) := by rw [List.countP_map]; rfl
      rw [← q1, m1, q2]
    have := h.cn n
    omega
  · intro j hj hk hl hj0 hp
    obtain ⟨y, hy, e⟩ := h.up j hj hk hl hj0
    rw [hp] at hy
    obtain ⟨x, hx, e2⟩ := mem2 y hy
    exact ⟨x, hx, e2.trans e⟩
theorem ren_ti (h : TIx (fun _ => False) k kf kn T) {f : Nat} (hf : ∀ d, upZ T f d) (old path : List UInt8) : TIx (fun _ => False) k (kf + 1) kn (renF T f old path).1 ∧ NS T (renF T f old path).1 := by
  have hm : TIx (fun _ => False) k (kf + 1) kn T := h.more (Nat.le_refl _) (Nat.le_succ _) (Nat.le_refl _)
  unfold renF
  split
  · exact ⟨hm, NS.refl T⟩
  · next a1 =>
    split
    · exact ⟨hm, NS.refl T⟩
    · next i hi =>
      split
      · exact ⟨hm, NS.refl T⟩
      · next a2 =>
        have hp := par_live h (Decidable.not_not.1 a2)
        have hf1 := par_live h (Decidable.not_not.1 a1)
        have hfd := h.lt hf1.1
        have htd := h.lt hp.1
        split
        · exact ⟨hm, NS.refl T⟩
        · next a3 =>
          split
          · have := spl_ti h hi (parF T path).2.1
            exact ⟨this.more (Nat.le_refl _) (Nat.le_succ _) (Nat.le_refl _), NS.set hfd _ rfl (fun _ => ⟨rfl, rfl, rfl⟩)⟩
          · next a4 =>
            obtain ⟨e, he, hek, hen⟩ := find_mem hi
            have hel := h.held he
            have henl := h.edg _ e he
            have hn0 := h.noroot he
            rw [← hen]
            have hw : wthB T f (parF T path).1 e.node = false := by
              by_cases k2 : (at' T e.node).kind = 2
              · cases q : wthB T f (parF T path).1 e.node with
                | false => rfl
                | true => rw [← hen] at a3; exact absurd ⟨k2, q⟩ a3
              · refine wthB_off (fun i q => ?_) (fun q => k2 (by rw [← q]; exact hp.2.1))
                have := h.pk i
                rw [q] at this
                rcases this with b | b
                · exact k2 b
                · exact h.nz hel b
            split
            · next b =>
              exact ⟨fin_ti h _ he hek hp.2.1 hp.1 hp.2.2.1 hp.2.2.2 (findE_no b) hf hw, NS.fin hfd htd henl _ _ _⟩
            · next j hj =>
              split
              · exact ⟨hm, NS.refl T⟩
              · next b1 =>
                split
                · exact ⟨hm, NS.refl T⟩
                · split
                  · exact ⟨hm, NS.refl T⟩
                  · split
                    · exact ⟨hm, NS.refl T⟩
                    · next b2 =>
                      obtain ⟨g, hg, hgk, hgn⟩ := find_mem hj
                      have hgnl := h.edg _ g hg
                      rw [← hgn]
                      have hge : (at' T g.node).edges = [] := by rw [← hgn] at b2; exact Decidable.not_not.1 b2
                      have D := drop_ti h hg hgk hge
                      have nd := NS.drop htd hgnl (parF T path).2.2.1
                      have hne : (at' T (parF T path).1).edges ≠ [] := fun a => by rw [a] at hg; simp at hg
                      have hne2 : (at' T (parF T old).1).edges ≠ [] := fun a => by rw [a] at he; simp at he
                      have t1 : (parF T path).1 ≠ g.node := fun q => by rw [← q] at hge; exact hne hge
                      have t2 : (parF T old).1 ≠ g.node := fun q => by rw [← q] at hge; exact hne2 hge
                      have lD : (dropT T (parF T path).1 (parF T path).2.2.1 g.node).length = T.length := by
                        unfold dropT reapF decL detT; split <;> simp
                      have Q : ∀ j, (j ≠ g.node → (at' (dropT T (parF T path).1 (parF T path).2.2.1 g.node) j).kind = (at' T j).kind ∧ (at' (dropT T (parF T path).1 (parF T path).2.2.1 g.node) j).links = (at' T j).links ∧ (at' (dropT T (parF T path).1 (parF T path).2.2.1 g.node) j).edges = if j = (parF T path).1 then detE (parF T path).2.2.1 (at' T j).edges else (at' T j).edges) ∧ ((at' (dropT T (parF T path).1 (parF T path).2.2.1 g.node) j).par = (at' T j).par ∨ (at' (dropT T (parF T path).1 (parF T path).2.2.1 g.node) j).par = 0) := by
                        have l1 : (detT T (parF T path).1 (parF T path).2.2.1).length = T.length := List.length_set
                        have A := at_upd htd { at' T (parF T path).1 with edges := detE (parF T path).2.2.1 (at' T (parF T path).1).edges }
                        have B := at_upd (T := detT T (parF T path).1 (parF T path).2.2.1) (i := g.node) (by rw [l1]; exact hgnl)
                        have l3 : (decL (detT T (parF T path).1 (parF T path).2.2.1) g.node).length = T.length := by unfold decL; rw [List.length_set, l1]
                        have C := at_upd (T := decL (detT T (parF T path).1 (parF T path).2.2.1) g.node) (i := g.node) (by rw [l3]; exact hgnl) nd0
                        intro j
                        have s1 : (at' (detT T (parF T path).1 (parF T path).2.2.1) j).kind = (at' T j).kind ∧ (at' (detT T (parF T path).1 (parF T path).2.2.1) j).links = (at' T j).links ∧ (at' (detT T (parF T path).1 (parF T path).2.2.1) j).edges = (if j = (parF T path).1 then detE (parF T path).2.2.1 (at' T j).edges else (at' T j).edges) ∧ (at' (detT T (parF T path).1 (parF T path).2.2.1) j).par = (at' T j).par := by
                          have hdT : at' (detT T (parF T path).1 (parF T path).2.2.1) j = if j = (parF T path).1 then { at' T (parF T path).1 with edges := detE (parF T path).2.2.1 (at' T (parF T path).1).edges } else at' T j := A j
                          rw [hdT]
                          by_cases q : j = (parF T path).1
                          · rw [if_pos q, if_pos q, q]; exact ⟨rfl, rfl, rfl, rfl⟩
                          · rw [if_neg q, if_neg q]; exact ⟨rfl, rfl, rfl, rfl⟩
                        have s2 : (j ≠ g.node → at' (decL (detT T (parF T path).1 (parF T path).2.2.1) g.node) j = at' (detT T (parF T path).1 (parF T path).2.2.1) j) ∧ (at' (decL (detT T (parF T path).1 (parF T path).2.2.1) g.node) j).par = (at' T j).par := by
                          unfold decL
                          rw [B]
                          by_cases q : j = g.node
                          · rw [if_pos q, ← q]; exact ⟨fun a => absurd rfl a, s1.2.2.2⟩
                          · rw [if_neg q]; exact ⟨fun _ => rfl, s1.2.2.2⟩
                        unfold dropT reapF
                        split
                        · rw [C]
                          by_cases q : j = g.node
                          · rw [if_pos q]; exact ⟨fun a => absurd q a, Or.inr rfl⟩
                          · rw [if_neg q, s2.1 q]; exact ⟨fun _ => ⟨s1.1, s1.2.1, s1.2.2.1⟩, Or.inl s1.2.2.2⟩
                        · by_cases q : j = g.node
                          · exact ⟨fun a => absurd q a, Or.inl s2.2⟩
                          · rw [s2.1 q]; exact ⟨fun _ => ⟨s1.1, s1.2.1, s1.2.2.1⟩, Or.inl s1.2.2.2⟩
                      generalize dropT T (parF T path).1 (parF T path).2.2.1 g.node = T1 at *
                      obtain ⟨q1, q2, q3⟩ := (Q (parF T path).1).1 t1
                      obtain ⟨p1, p2, p3⟩ := (Q (parF T old).1).1 t2
                      refine ⟨?_, nd.trans (NS.fin (by rw [lD]; exact hfd) (by rw [lD]; exact htd) (by rw [lD]; exact henl) _ _ _)⟩
                      refine fin_ti D (parF T path).2.1 (e := e) ?_ hek (by rw [q1]; exact hp.2.1) (by rw [q2]; exact hp.1) hp.2.2.1 hp.2.2.2 ?_ (f := f) (fun d => upZ_cut (fun i => (Q i).2) (hf d)) (wthB_cut hn0 (fun i => (Q i).2) hw)
                      · rw [p3]
                        split
                        · next q =>
                          refine det_mem.2 ⟨he, fun r => a4 ⟨q, ?_⟩⟩
                          rw [← hek, r]
                        · exact he
                      · intro x hx
                        rw [q3, if_pos rfl] at hx
                        exact (det_mem.1 hx).2
end
end Go.Proofs.Qxb6500767a
