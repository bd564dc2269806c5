/- A table in the memory, right for the raw directories: put, drop, get, above. -/
import Derived.Test.Qxb6500766aPb
import Derived.Test.Qxb6500766aTt
import Derived.Test.Qxb6500766aTz
namespace Go.Qm
open Go Go.RowKit
theorem OwnS.fr {α : Type} {f : α → List Value} {sz : Nat} {e : TypeId} {B : Nat} {w w' : World} {v : Value} {l : List α} {P : Nat → Prop} (h : OwnS f sz e B w v l) (k : Fr P w w') (hp : ∀ q, v.ownBlock = some q → ¬ P q) : OwnS f sz e B w' v l := by
  refine ⟨h.1, ?_⟩
  rcases h.2 with hn | ⟨g, cap, cur, hv, hb, hg, rest⟩
  · exact Or.inl hn
  · exact Or.inr ⟨g, cap, cur, hv, hb, k.heap (hp g (by rw [hv]; rfl)) hg, rest⟩
theorem OwnS.arr {α : Type} {f : α → List Value} {sz : Nat} {e : TypeId} {B : Nat} {w : World} {v : Value} {l : List α} (h : OwnS f sz e B w v l) {q : Nat} (hq : v.ownBlock = some q) : ∃ cur, Arr w q e cur := by
  rcases h.form with ⟨rfl, _⟩ | ⟨g, cap, cur, rfl, _, hg, _⟩
  · cases hq
  · have : g = q := by simpa [Value.ownBlock] using hq
    subst this
    exact ⟨cur, hg⟩
theorem OwnS.own {α : Type} {f : α → List Value} {sz : Nat} {e : TypeId} {B : Nat} {w : World} {v : Value} {l : List α} (h : OwnS f sz e B w v l) (hl : l ≠ []) : ∃ q, v.ownBlock = some q := by
  rcases h.form with ⟨_, e⟩ | ⟨g, cap, cur, rfl, _⟩
  · exact absurd e hl
  · exact ⟨g, rfl⟩
theorem Arr.ty {w : World} {g : Nat} {t t' : TypeId} {cs cs' : List Value} (h : Arr w g t cs) (k : Arr w g t' cs') : t = t' := by
  unfold Arr at h k
  rw [h] at k
  simp only [Option.some.injEq, Obj.cells.injEq] at k
  exact k.2.1
end Go.Qm
namespace Go.Proofs.Qxb6500766a
open Go Go.Qm
set_option linter.unusedVariables false
structure DirOK (D : Dir) : Prop where
  srt : ∀ l, l < 8 → SrtR (D l)
  len : ∀ l, l < 8 → (D l).length ≤ 12
  nm : ∀ l, l < 8 → ∀ r ∈ D l, r.1.length ≤ 1000000
/-- A table in the memory. -/
structure TabW (B : Nat) (w : World) (b : Nat) (ss : List Slot) (D : Dir) : Prop where
  S : Slots w b ss
  tv : TV ss
  rt : Right (LiveL ss) D
  own : ∀ s ∈ LiveL ss, EntO B w s.lv s.es
  nd : ((LiveL ss).map (·.lv.ownBlock)).Nodup
  bB : B ≤ b
/-- Its blocks. -/
def tf (b : Nat) (ss : List Slot) (q : Nat) : Prop := q = b ∨ ∃ s ∈ LiveL ss, s.lv.ownBlock = some q
theorem sl_live {ss : List Slot} {i : Nat} (hi : i < ss.length) (h1 : (sl ss i).st = 1) : sl ss i ∈ LiveL ss := mem_LiveL.2 ⟨sl_mem hi, h1⟩
section
variable {B : Nat} {w w' : World} {b : Nat} {ss : List Slot} {D : Dir}
theorem TabW.ne (h : TabW B w b ss D) {s : Slot} (hs : s ∈ LiveL ss) : s.es ≠ [] := by rw [h.rt.es s hs]; exact keys_bear.1 (h.rt.ne s hs)
theorem TabW.tyb (h : TabW B w b ss D) {g : Nat} {t : TypeId} {cs : List Value} (A : Arr w g t cs) (ht : t ≠ 88) : b ≠ g := by
  rintro rfl
  exact ht (A.ty h.S)
theorem TabW.tyl (h : TabW B w b ss D) {s : Slot} (hs : s ∈ LiveL ss) {q : Nat} (hq : s.lv.ownBlock = some q) {g : Nat} {t : TypeId} {cs : List Value} (A : Arr w g t cs) (ht : t ≠ 64) : q ≠ g := by
  rintro rfl
  obtain ⟨cur, hc⟩ := (h.own s hs).arr hq
  exact ht (A.ty hc)
theorem TabW.ty (h : TabW B w b ss D) {q : Nat} (hq : tf b ss q) : ∃ t cs, Arr w q t cs ∧ (t = 88 ∨ t = 64) := by
  rcases hq with rfl | ⟨s, hs, e⟩
  · exact ⟨88, _, h.S, Or.inl rfl⟩
  · obtain ⟨cur, hc⟩ := (h.own s hs).arr e
    exact ⟨64, cur, hc, Or.inr rfl⟩
theorem TabW.out (h : TabW B w b ss D) {g : Nat} {t : TypeId} {cs : List Value} (A : Arr w g t cs) (h8 : t ≠ 88) (h4 : t ≠ 64) : ¬ tf b ss g := by
  intro hq
  obtain ⟨t', cs', A', e⟩ := h.ty hq
  have := A.ty A'
  rcases e with e | e
  · exact h8 (this.trans e)
  · exact h4 (this.trans e)
theorem TabW.lo (h : TabW B w b ss D) {q : Nat} (hq : tf b ss q) : B ≤ q ∧ q < w.heap.size := by
  rcases hq with rfl | ⟨s, hs, e⟩
  · exact ⟨h.bB, Arr.lt h.S⟩
  · exact (h.own s hs).lt q e
theorem TabW.fr (h : TabW B w b ss D) {P : Nat → Prop} (k : Fr P w w') (hp : ∀ q, tf b ss q → ¬ P q) : TabW B w' b ss D :=
  ⟨k.arr (hp b (Or.inl rfl)) h.S, h.tv, h.rt, fun s hs => (h.own s hs).fr k (fun q hq => hp q (Or.inr ⟨s, hs, hq⟩)), h.nd, h.bB⟩
theorem TabW.keep (h : TabW B w b ss D) (k : Keep w w') : TabW B w' b ss D := h.fr (P := fun _ => False) (Fr.keep k) (fun _ _ a => a)
theorem TabW.congr {D' : Dir} (h : TabW B w b ss D) (e : ∀ l, l < 8 → D l = D' l) : TabW B w b ss D' := ⟨h.S, h.tv, h.rt.congr e, h.own, h.nd, h.bB⟩
theorem TabW.slice (h : TabW B w b ss D) : ∀ s ∈ ss, ∃ a i j, s.lv = .slice a i j := by
  intro s hs
  by_cases h1 : s.st = 1
  · rcases (h.own s (mem_LiveL.2 ⟨hs, h1⟩)).form with ⟨e, _⟩ | ⟨g, cap, cur, e, _⟩
    · exact ⟨_, _, _, e⟩
    · exact ⟨_, _, _, e⟩
  · exact ⟨_, _, _, (h.tv.nl s hs h1).2.1⟩
end
def PutT (B : Nat) (w : World) (g o tc gS so tS : Nat) (cs cS : List Value) (b : Nat) (ss : List Slot) (D' : Dir) (r : Ending) (w' : World) : Prop :=
  ∃ b' live' dead' ss' cs' cS', r = .returned (.tuple #[]) ∧ Arr w' g tc cs' ∧ Arr w' gS tS cS' ∧ TabC cs' o b' ss'.length live' dead' ∧ StatC cS' so ∧ SameOff g o gS so cs cs' ∧ (g ≠ gS → cS'.length = cS.length ∧ ∀ i, i ≠ so + 3 → i ≠ so + 4 → i ≠ so + 5 → cS'[i]? = cS[i]?) ∧
    live' = (LiveL ss').length ∧ dead' = deadN ss' ∧ TabW B w' b' ss' D' ∧ Fr (fun q => q = g ∨ q = gS ∨ tf b ss q) w w' ∧ ∀ q, tf b' ss' q → tf b ss q ∨ w.heap.size ≤ q
theorem put_tab (B tc g o b live dead tS gS so : Nat) (cs cS : List Value) (ss : List Slot) (D : Dir) (l : Nat) (x : RawE) (k : List UInt8) (w : World) (A : Arr w g tc cs) (AS : Arr w gS tS cS) (hsame : g = gS → o + 3 ≤ so ∧ cs = cS)
    (T : TabC cs o b ss.length live dead) (sc : StatC cS so) (hl : live = (LiveL ss).length) (hd : dead = deadN ss) (TW : TabW B w b ss D) (DK : DirOK D) (hl8 : l < 8) (hk : keyF x.1 = some k) (hh : hasR x.1 (D l) = false)
    (ht : tc ≠ 64 ∧ tS ≠ 64 ∧ tc ≠ 88 ∧ tS ≠ 88) :
    Calls Try.prog 46 #[.pointer (some ⟨g, o, none⟩), str k, .agg (entC (mkE l x)).toArray, .pointer (some ⟨gS, so, none⟩)] w fun r w' => PutT B w g o tc gS so tS cs cS b ss (updD D l (insR x (D l))) r w' := by
  obtain ⟨kne, klen, xne, xlen⟩ := keyF_some hk
  have hbg := TW.tyb A ht.2.2.1
  have hbS := TW.tyb AS ht.2.2.2
  rcases find_spec TW.tv k with ⟨i, hi, _, h1, hkey⟩ | ⟨j, hj, _, hs, hp, habs⟩
  · have hm := sl_live hi h1
    have hE := TW.own _ hm
    have hes : (sl ss i).es = bear D k := by rw [TW.rt.es _ hm, hkey]
    have hc : w.cell? ⟨g, o, none⟩ = some (.slice (some ⟨b, 0, none⟩) ss.length ss.length) := by rw [A.cell]; exact T.c0
    refine (put_old_c B g o b ss.length i (.pointer (some ⟨gS, so, none⟩)) ss k (mkE l x) w hc TW.S rfl TW.tv (by omega) hi h1 hkey hE (TW.ne hm) (by rw [hes]; have := bear_le DK.len k; omega) (Nat.le_trans TW.bB (Nat.le_of_lt (Arr.lt TW.S))) hbg
      (fun q hq => ⟨TW.tyl hm hq TW.S (by decide), TW.tyl hm hq A ht.1⟩) (by show x.1.length ≤ _; omega) ?_ ?_).mono ?_
    · intro e he
      rw [hes] at he
      obtain ⟨i', hi', r, hr, _, rfl⟩ := mem_bear.1 he
      exact DK.nm i' hi' r hr
    · intro e he hly hrw
      rw [hes] at he
      obtain ⟨i', hi', r, hr, _, rfl⟩ := mem_bear.1 he
      have e1 : (i' : Int) = (l : Int) := hly
      have e2 : i' = l := by omega
      subst e2
      exact hasR_false.1 hh r hr hrw
    · rintro r w' ⟨lv', rfl, S', E', hb', hsl', fr⟩
      have nb : ∀ q, (q = b ∨ (sl ss i).lv.ownBlock = some q) → tf b ss q := fun q hq => hq.elim Or.inl (fun a => Or.inr ⟨_, hm, a⟩)
      have A' : Arr w' g tc cs := fr.arr (fun a => TW.out A ht.2.2.1 ht.1 (nb g a)) A
      have AS' : Arr w' gS tS cS := fr.arr (fun a => TW.out AS ht.2.2.2 ht.2.1 (nb gS a)) AS
      obtain ⟨tv', ⟨R, p1, p2⟩, dd⟩ := TW.tv.turn hi h1 lv' (insE (mkE l x) (sl ss i).es)
      generalize hss : ss.set i ⟨1, (sl ss i).hash, (sl ss i).key, lv', insE (mkE l x) (sl ss i).es⟩ = ss' at S' tv' p2 dd
      have hlen : ss'.length = ss.length := by rw [← hss, List.length_set]
      have ndb := (p1.map (·.lv.ownBlock)).nodup TW.nd
      rw [List.map_cons, List.nodup_cons] at ndb
      have hR : ∀ s ∈ R, s ∈ LiveL ss ∧ s.lv.ownBlock ≠ (sl ss i).lv.ownBlock := fun s hs => ⟨p1.mem_iff.2 (by simp [hs]), fun e => ndb.1 (List.mem_map.2 ⟨s, hs, e⟩)⟩
      refine ⟨b, live, dead, ss', cs, cS, rfl, A', AS', by rw [hlen]; exact T, sc, SameOff.refl _ _ _ _ _, fun _ => ⟨rfl, fun _ _ _ _ => rfl⟩, ?_, by rw [hd, dd], ?_, fr.mono (fun q _ hq => Or.inr (Or.inr (nb q hq))), ?_⟩
      · rw [hl, p1.length_eq, p2.length_eq]; rfl
      · refine ⟨S', tv', Right.add_old (s' := ⟨1, (sl ss i).hash, (sl ss i).key, lv', insE (mkE l x) (sl ss i).es⟩) TW.rt hl8 hk (DK.srt l hl8) hh p1 TW.tv.nodup hkey hkey rfl p2, ?_, ?_, TW.bB⟩
        · intro s hs
          rcases List.mem_cons.1 (p2.mem_iff.1 hs) with rfl | hs
          · exact E'
          · refine (TW.own s (hR s hs).1).fr fr (fun q hq => ?_)
            rintro (rfl | e)
            · exact TW.tyl (hR s hs).1 hq TW.S (by decide) rfl
            · exact (hR s hs).2 (by rw [hq, e])
        · rw [(p2.map (·.lv.ownBlock)).nodup_iff, List.map_cons, List.nodup_cons]
          refine ⟨?_, ndb.2⟩
          intro hmem
          obtain ⟨s, hs, e⟩ := List.mem_map.1 hmem
          have e : s.lv.ownBlock = lv'.ownBlock := e
          rcases hb' with a | ⟨q, a, hq⟩
          · exact (hR s hs).2 (by rw [e, a])
          · have := (TW.own s (hR s hs).1).lt q (by rw [e, a])
            omega
      · rintro q (rfl | ⟨s, hs, e⟩)
        · exact Or.inl (Or.inl rfl)
        · rcases List.mem_cons.1 (p2.mem_iff.1 hs) with rfl | hs
          · rcases hb' with a | ⟨q', a, hq⟩
            · exact Or.inl (nb q (Or.inr (by rw [← a]; exact e)))
            · have e : lv'.ownBlock = some q := e
              rw [a] at e
              cases e
              exact Or.inr hq
          · exact Or.inl (Or.inr ⟨s, (hR s hs).1, e⟩)
  · refine (put_new_c B tc g o b ss.length live dead tS gS so cs cS ss k (mkE l x) w A AS hsame T sc TW.S hbg hbS rfl TW.tv hl hd (by have := TW.rt.len TW.tv DK.len; omega) TW.slice habs (by omega)).mono ?_
    rintro r w' ⟨b', n', live', dead', ss', lv', cs', cS', rfl, A', AS', T', sc', so', hsS, rfl, S', tv', hl', hd', p, hown, hsl, hb', hb'g, hb'S, fr⟩
    have hE' : EntO w.heap.size w' lv' [mkE l x] := by
      unfold EntO OwnS
      simpa using hown
    have habs' : ∀ s ∈ LiveL ss, s.key ≠ k := by
      intro s hs
      obtain ⟨h2, h3⟩ := mem_LiveL.1 hs
      obtain ⟨i, hi, e⟩ := List.mem_iff_getElem.1 h2
      rw [← e, ← sl_eq hi]
      exact habs i hi (by rw [sl_eq hi, e]; exact h3)
    have hsz : B ≤ w.heap.size := Nat.le_trans TW.bB (Nat.le_of_lt (Arr.lt TW.S))
    refine ⟨b', live', dead', ss', cs', cS', rfl, A', AS', T', sc', so', hsS, hl', hd', ?_, fr.mono (fun q _ hq => ?_), ?_⟩
    · refine ⟨S', tv', Right.add_new TW.rt hl8 hk (DK.srt l hl8) hh habs' rfl rfl p, ?_, ?_, ?_⟩
      · intro s hs
        rcases List.mem_cons.1 (p.mem_iff.1 hs) with rfl | hs
        · exact hE'.mono hsz
        · refine (TW.own s hs).fr fr (fun q hq => ?_)
          rintro (rfl | rfl | rfl)
          · exact TW.tyl hs hq A ht.1 rfl
          · exact TW.tyl hs hq AS ht.2.1 rfl
          · exact TW.tyl hs hq TW.S (by decide) rfl
      · rw [(p.map (·.lv.ownBlock)).nodup_iff, List.map_cons, List.nodup_cons]
        refine ⟨?_, TW.nd⟩
        intro hmem
        obtain ⟨s, hs, e⟩ := List.mem_map.1 hmem
        have e : s.lv.ownBlock = lv'.ownBlock := e
        obtain ⟨q, hq⟩ := hE'.own (by simp)
        have h1 := (hE'.lt q hq).1
        have h2 := (TW.own s hs).lt q (by rw [e, hq])
        omega
      · rcases hb' with rfl | a
        · exact TW.bB
        · omega
    · rcases hq with a | a | a
      · exact Or.inl a
      · exact Or.inr (Or.inl a)
      · exact Or.inr (Or.inr (Or.inl a))
    · rintro q (rfl | ⟨s, hs, e⟩)
      · rcases hb' with a | a
        · exact Or.inl (Or.inl a)
        · exact Or.inr a
      · rcases List.mem_cons.1 (p.mem_iff.1 hs) with rfl | hs
        · exact Or.inr (hE'.lt q e).1
        · exact Or.inl (Or.inr ⟨s, hs, e⟩)
def DropT (B : Nat) (w : World) (g o tc : Nat) (cs : List Value) (b : Nat) (ss : List Slot) (D' : Dir) (r : Ending) (w' : World) : Prop :=
  ∃ live' dead' ss' cs', r = .returned (.tuple #[]) ∧ Arr w' g tc cs' ∧ TabC cs' o b ss'.length live' dead' ∧ cs'.length = cs.length ∧ (∀ i, i ≠ o → i ≠ o + 1 → i ≠ o + 2 → cs'[i]? = cs[i]?) ∧
    live' = (LiveL ss').length ∧ dead' = deadN ss' ∧ TabW B w' b ss' D' ∧ Fr (fun q => q = g ∨ tf b ss q) w w' ∧ ∀ q, tf b ss' q → tf b ss q
theorem drop_tab (B tc g o b live dead : Nat) (cs : List Value) (ss : List Slot) (D : Dir) (l : Nat) (name k : List UInt8) (w : World) (A : Arr w g tc cs) (T : TabC cs o b ss.length live dead) (hl : live = (LiveL ss).length) (hd : dead = deadN ss)
    (TW : TabW B w b ss D) (DK : DirOK D) (hl8 : l < 8) (hk : keyF name = some k) (hh : hasR name (D l) = true) (ht : tc ≠ 64 ∧ tc ≠ 88) :
    Calls Try.prog 47 #[.pointer (some ⟨g, o, none⟩), str k, .int .i64 l, str name] w fun r w' => DropT B w g o tc cs b ss (updD D l (outR name (D l))) r w' := by
  obtain ⟨kne, klen, xne, xlen⟩ := keyF_some hk
  have hbg := TW.tyb A ht.2
  obtain ⟨p, hp, hpl, hpr⟩ := bear_at hl8 hk hh
  obtain ⟨s0, hs0, hk0⟩ := TW.rt.all k (keys_bear.2 (List.ne_nil_of_length_pos (by omega)))
  obtain ⟨i, hi, h1, hkey⟩ : ∃ i, i < ss.length ∧ (sl ss i).st = 1 ∧ (sl ss i).key = k := by
    obtain ⟨h2, h3⟩ := mem_LiveL.1 hs0
    obtain ⟨i, hi, e⟩ := List.mem_iff_getElem.1 h2
    exact ⟨i, hi, by rw [sl_eq hi, e]; exact h3, by rw [sl_eq hi, e]; exact hk0⟩
  have hm := sl_live hi h1
  have hE := TW.own _ hm
  have hes : (sl ss i).es = bear D k := by rw [TW.rt.es _ hm, hkey]
  have hlive := TW.rt.len TW.tv DK.len
  have hroom := TW.tv.room
  obtain ⟨m, _, hm20, hlen⟩ := TW.tv.pow
  have hpw : 2 ^ m ≤ 2 ^ 20 := Nat.pow_le_pow_right (by omega) hm20
  have hpos := List.length_pos_of_mem hm
  have hp' : p < (sl ss i).es.length := by rw [hes]; exact hp
  have hpm : (sl ss i).es[p].layer = l ∧ (sl ss i).es[p].raw = name := by simp only [hes]; exact ⟨hpl, hpr⟩
  have hpf : ∀ j (hj : j < (sl ss i).es.length), j < p → ¬ ((sl ss i).es[j].layer = l ∧ (sl ss i).es[j].raw = name) := by
    simp only [hes]
    intro j hj hjp e
    have := (bear_sorted k DK.srt).uniq hj hp (by rw [e.1, hpl]) (by rw [e.2, hpr])
    omega
  refine (drop_c B tc g o b ss.length i p live dead cs ss k l name w A T TW.S rfl TW.tv (by omega) hi h1 hkey hE (by rw [hes]; have := bear_le DK.len k; omega) hbg (by omega) (by omega) (fun q hq => ⟨TW.tyl hm hq TW.S (by decide), TW.tyl hm hq A ht.1⟩) hp' hpm hpf).mono ?_
  rintro r w' ⟨rfl, fr, hcase⟩
  have nb : ∀ q, (q = g ∨ q = b ∨ (sl ss i).lv.ownBlock = some q) → q = g ∨ tf b ss q := fun q hq => hq.elim Or.inl (fun a => Or.inr (a.elim Or.inl (fun a => Or.inr ⟨_, hm, a⟩)))
  have frO : ∀ s ∈ LiveL ss, s.lv.ownBlock ≠ (sl ss i).lv.ownBlock → EntO B w' s.lv s.es := by
    intro s hs hne
    refine (TW.own s hs).fr fr (fun q hq => ?_)
    rintro (rfl | rfl | e)
    · exact TW.tyl hs hq A ht.1 rfl
    · exact TW.tyl hs hq TW.S (by decide) rfl
    · exact hne (by rw [hq, e])
  rcases hcase with ⟨e1, S', A'⟩ | ⟨e1, lv', S', E', hb', hsl', A'⟩
  · obtain ⟨tv', p1, dd⟩ := TW.tv.drop hi h1
    generalize hss : ss.set i deadS = ss' at S' tv' p1 dd
    have hlen' : ss'.length = ss.length := by rw [← hss, List.length_set]
    have ndb := (p1.map (·.lv.ownBlock)).nodup TW.nd
    rw [List.map_cons, List.nodup_cons] at ndb
    have hR : ∀ s ∈ LiveL ss', s ∈ LiveL ss ∧ s.lv.ownBlock ≠ (sl ss i).lv.ownBlock := fun s hs => ⟨p1.mem_iff.2 (by simp [hs]), fun e => ndb.1 (List.mem_map.2 ⟨s, hs, e⟩)⟩
    have hll := p1.length_eq
    rw [List.length_cons] at hll
    refine ⟨live - 1, dead + 1, ss', _, rfl, A', ?_, by simp, ?_, by omega, by omega, ?_, fr.mono (fun q _ hq => nb q hq), ?_⟩
    · rw [hlen']
      exact ⟨get_ne (get_ne T.c0 (by omega) _) (by omega) _, get_ne (get_set T.c1 _) (by omega) _, get_set (get_ne T.c2 (by omega) _) _⟩
    · intro j a0 a1 a2
      rw [List.getElem?_set_ne (by omega), List.getElem?_set_ne (by omega)]
    · refine ⟨S', tv', Right.out_last TW.rt hl8 DK.srt hk p1 TW.tv.nodup hkey hp' hpm e1, fun s hs => frO s (hR s hs).1 (hR s hs).2, ndb.2, TW.bB⟩
    · rintro q (rfl | ⟨s, hs, e⟩)
      · exact Or.inl rfl
      · exact Or.inr ⟨s, (hR s hs).1, e⟩
  · obtain ⟨tv', ⟨R, p1, p2⟩, dd⟩ := TW.tv.turn hi h1 lv' ((sl ss i).es.eraseIdx p)
    generalize hss : ss.set i ⟨1, (sl ss i).hash, (sl ss i).key, lv', (sl ss i).es.eraseIdx p⟩ = ss' at S' tv' p2 dd
    have hlen' : ss'.length = ss.length := by rw [← hss, List.length_set]
    have ndb := (p1.map (·.lv.ownBlock)).nodup TW.nd
    rw [List.map_cons, List.nodup_cons] at ndb
    have hR : ∀ s ∈ R, s ∈ LiveL ss ∧ s.lv.ownBlock ≠ (sl ss i).lv.ownBlock := fun s hs => ⟨p1.mem_iff.2 (by simp [hs]), fun e => ndb.1 (List.mem_map.2 ⟨s, hs, e⟩)⟩
    refine ⟨live, dead, ss', cs, rfl, A', by rw [hlen']; exact T, rfl, fun _ _ _ _ => rfl, by rw [hl, p1.length_eq, p2.length_eq]; rfl, by rw [hd, dd], ?_, fr.mono (fun q _ hq => nb q hq), ?_⟩
    · refine ⟨S', tv', Right.out_some (s' := ⟨1, (sl ss i).hash, (sl ss i).key, lv', (sl ss i).es.eraseIdx p⟩) TW.rt hl8 DK.srt hk p1 TW.tv.nodup hkey hp' hpm e1 hkey rfl p2, ?_, ?_, TW.bB⟩
      · intro s hs
        rcases List.mem_cons.1 (p2.mem_iff.1 hs) with rfl | hs
        · exact E'
        · exact frO s (hR s hs).1 (hR s hs).2
      · rw [(p2.map (·.lv.ownBlock)).nodup_iff, List.map_cons, List.nodup_cons]
        refine ⟨?_, ndb.2⟩
        intro hmem
        obtain ⟨s, hs, e⟩ := List.mem_map.1 hmem
        have e : s.lv.ownBlock = lv'.ownBlock := e
        exact (hR s hs).2 (by rw [e, hb'])
    · rintro q (rfl | ⟨s, hs, e⟩)
      · exact Or.inl rfl
      · rcases List.mem_cons.1 (p2.mem_iff.1 hs) with rfl | hs
        · have e : lv'.ownBlock = some q := e
          exact Or.inr ⟨_, hm, by rw [← hb']; exact e⟩
        · exact Or.inr ⟨s, (hR s hs).1, e⟩
theorem get_tab (B g o b : Nat) (ss : List Slot) (D : Dir) (k : List UInt8) (w : World) (hc : w.cell? ⟨g, o, none⟩ = some (.slice (some ⟨b, 0, none⟩) ss.length ss.length)) (TW : TabW B w b ss D) (DK : DirOK D) (hk : k.length ≤ 1000000) :
    Calls Try.prog 44 #[.pointer (some ⟨g, o, none⟩), str k] w fun e w' => ∃ v', e = .returned v' ∧ EntO w.heap.size w' v' (bear D k) ∧ Keep w w' := by
  rcases find_spec TW.tv k with ⟨i, hi, _, h1, hkey⟩ | ⟨j, hj, _, hs, hp, habs⟩
  · have hm := sl_live hi h1
    have hes : (sl ss i).es = bear D k := by rw [TW.rt.es _ hm, hkey]
    have := get_c B g o b ss.length i ss k w hc TW.S rfl TW.tv hk hi h1 hkey (TW.own _ hm) (TW.ne hm) (by rw [hes]; have := bear_le DK.len k; omega)
    rw [hes] at this
    exact this
  · refine (get_none_c g o b ss.length 0 ss k w hc TW.S rfl TW.tv hk habs).mono ?_
    rintro e w' ⟨rfl, rfl⟩
    have hb : bear D k = [] := by
      cases e : bear D k with
      | nil => rfl
      | cons a c =>
        obtain ⟨s, hs, q⟩ := TW.rt.all k (keys_bear.2 (by rw [e]; simp))
        obtain ⟨h2, h3⟩ := mem_LiveL.1 hs
        obtain ⟨i, hi, e⟩ := List.mem_iff_getElem.1 h2
        exact absurd (by rw [sl_eq hi, e]; exact q) (habs i hi (by rw [sl_eq hi, e]; exact h3))
    rw [hb]
    exact ⟨_, rfl, OwnS.nil _ _ _ _ _, Keep.refl _⟩
theorem above_tab (B g o b : Nat) (ss : List Slot) (D : Dir) (after : List UInt8) (w : World) (hc : w.cell? ⟨g, o, none⟩ = some (.slice (some ⟨b, 0, none⟩) ss.length ss.length)) (TW : TabW B w b ss D) (ha : after.length ≤ 1000000) :
    Calls Try.prog 43 #[.pointer (some ⟨g, o, none⟩), str after] w fun e w' => e = .returned (.tuple #[str (accK (nextK D after)), .bool (nextK D after).isSome]) ∧ Keep w w' := by
  obtain ⟨m, _, hm20, hlen⟩ := TW.tv.pow
  have hpw : 2 ^ m ≤ 2 ^ 20 := Nat.pow_le_pow_right (by omega) hm20
  have := above_c g o b ss.length ss after w hc TW.S rfl (by omega) ha (fun s hs => ?_) TW.tv.st
  · rw [TW.rt.above] at this
    exact this
  · by_cases h1 : s.st = 1
    · obtain ⟨l, hl, r, hr, e⟩ := mem_keys.1 (TW.rt.ne s (mem_LiveL.2 ⟨hs, h1⟩))
      have := keyF_some e
      omega
    · rw [(TW.tv.nl s hs h1).1]; simp
end Go.Proofs.Qxb6500766a
