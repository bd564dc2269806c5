/- blastlaw: one stack of the builder: what stands while an element is appended. -/
import Derived.Test.Qxb6500772aGd
namespace Go.Proofs.Qxb6500772a
open Go Go.RowKit Go.Qm
set_option linter.unusedVariables false
set_option linter.unusedSimpArgs false
/-- Values stored in a row. -/
def stC (w : World) (g : Nat) : Nat → List Value → World
  | _, [] => w
  | o, v :: l => stC (w.setCell ⟨g, o, none⟩ v) g (o + 1) l
def setSeq (cur : List Value) : Nat → List Value → List Value
  | _, [] => cur
  | o, v :: l => setSeq (cur.set o v) (o + 1) l
theorem stC_arr {g : Nat} {t : TypeId} : ∀ (l : List Value) (w : World) (cur : List Value) (o : Nat), Arr w g t cur → Arr (stC w g o l) g t (setSeq cur o l)
  | [], _, _, _, h => h
  | v :: l, w, cur, o, h => stC_arr l _ _ (o + 1) (h.set o v)
theorem stC_fr {g : Nat} : ∀ (l : List Value) (w : World) (o : Nat), Fr (fun q => q = g) w (stC w g o l)
  | [], w, _ => Fr.refl _ w
  | v :: l, w, o => (Fr.setCell (P := fun q => q = g) (p := ⟨g, o, none⟩) (Fr.refl _ w) (Or.inl rfl) v).trans (stC_fr l _ (o + 1))
theorem setSeq_eq : ∀ (l : List Value) (cur : List Value) (o : Nat), o + l.length ≤ cur.length → setSeq cur o l = cur.take o ++ (l ++ cur.drop (o + l.length))
  | [], cur, o, h => by simp [setSeq]
  | v :: l, cur, o, h => by
    simp only [List.length_cons] at h
    rw [setSeq, setSeq_eq l _ _ (by rw [List.length_set]; omega), List.take_set, List.drop_set_of_lt (by omega), List.take_succ_eq_append_getElem (by omega : o < cur.length), List.set_append_right _ _ (by rw [List.length_take]; omega)]
    have e1 : o - (List.take o cur).length = 0 := by rw [List.length_take]; omega
    rw [e1]
    simp only [List.set_cons_zero, List.length_cons, List.append_assoc, List.singleton_append, List.cons_append]
    rw [show o + 1 + l.length = o + (l.length + 1) by omega]
    rfl
theorem setSeq_len : ∀ (l : List Value) (cur : List Value) (o : Nat), (setSeq cur o l).length = cur.length
  | [], cur, o => rfl
  | v :: l, cur, o => by rw [setSeq, setSeq_len l, List.length_set]
theorem OwnS.lastc {α : Type} {f : α → List Value} {sz : Nat} {e : TypeId} {B : Nat} {w : World} {g c : Nat} {n : Nat} {l : List α} {z : α} (hf : ∀ x, (f x).length = sz) (hn : n = l.length + 1) (h : OwnS f sz e B w (.slice (some ⟨g, 0, none⟩) n c) (l ++ [z])) (x : α) : OwnS f sz e B (stC w g (l.length * sz) (f x)) (.slice (some ⟨g, 0, none⟩) n c) (l ++ [x]) := by
  rcases h.form with ⟨e1, e2⟩ | ⟨g', cap, cur, e1, hB, hA, hc, hm, hl, ht⟩
  · cases e1
  · injection e1 with e3 e4 e5
    injection e3 with e3
    injection e3 with e3
    subst e3 e5
    have hln : (l ++ [x]).length = (l ++ [z]).length := by simp
    have hsz : l.length * sz + sz ≤ cur.length := by
      rw [hl]
      have h1 : (l.length + 1) * sz ≤ c * sz := Nat.mul_le_mul_right sz (by simpa using hc)
      rw [Nat.add_mul] at h1
      omega
    have := OwnS.of (f := f) (l := l ++ [x]) (cap := c) hf hB (stC_arr (f x) w cur (l.length * sz) hA) (by simpa using hc) hm (by rw [setSeq_len]; exact hl) (by
      rw [setSeq_eq _ _ _ (by rw [hf]; exact hsz), List.flatMap_append, hf]
      have h9 := congrArg (List.take (l.length * sz)) ht
      have hfl := flat_length f sz hf l
      rw [List.take_take, List.flatMap_append, Nat.min_eq_left (by simp [Nat.add_mul]), ← hfl, List.take_left, hfl] at h9
      rw [h9, List.length_append, List.length_singleton, Nat.add_mul, Nat.one_mul, ← List.append_assoc, List.take_append_of_le_length (by rw [List.length_append, hfl, hf]; omega), List.take_of_length_le (by rw [List.length_append, hfl, hf]; omega)]
      simp)
    rw [hn]
    rw [show l.length + 1 = (l ++ [x]).length by simp]
    exact this
/-- append of one element to a stack. -/
theorem app_own {α : Type} {f : α → List Value} {sz : Nat} {e t : TypeId} {zv : Value} {by' : Nat} (hu : Try.prog.underlying t = some (.slice e)) (hinf : (Try.prog.info? e).map (fun i => (i.zero, i.size, i.bytes)) = some (some zv, sz, by')) (hzc : zv.cells.size = sz) (hbl : by' ≤ 200) (hsz : 0 < sz) {w : World} {B : Nat} {v : Value} {l : List α} (hf : ∀ x, (f x).length = sz) (h : OwnS f sz e B w v l) (g : Nat) (x : α) (hg : Arr w g e (f x)) (h1 : ∀ u ∈ f x, u.oneCell' = true) (hB : B ≤ w.heap.size) (hl : l.length ≤ 1000000) :
    ∃ g' c w', (Builtin.append_ #[t, t] t #[v, .slice (some ⟨g, 0, none⟩) 1 1]).run Try.prog w = .ok (.slice (some ⟨g', 0, none⟩) (l.length + 1) c) w' ∧ OwnS f sz e B w' (.slice (some ⟨g', 0, none⟩) (l.length + 1) c) (l ++ [x]) ∧ w.grownBy w' v.ownBlock ∧ (v.ownBlock = some g' ∨ g' = w.heap.size) := by
  obtain ⟨i, hi', hz', hs', hby⟩ := info_parts hinf
  have hnews : ∀ j u, (f x)[j]? = some u → w.cell? ((⟨g, 0, none⟩ : Addr).add j) = some u := fun j u hu => by
    have e : (⟨g, 0, none⟩ : Addr).add j = ⟨g, j, none⟩ := by unfold Addr.add; split <;> simp_all
    rw [e, Arr.cell hg, hu]
  obtain ⟨v', w', r1, r2, r3, _, r4⟩ := run_append_own_at (P := Try.prog) w B t t e i _ sz by' hu hi' hz' hs' hby hzc hsz v l.length (l.flatMap f) h ⟨g, 0, none⟩ 1 1 (f x) (by rw [hf, Nat.one_mul]) hnews h1 (by simp only [maxLen]; omega) (by
    have : (l.length + 1) * by' ≤ (l.length + 1) * 200 := Nat.mul_le_mul_left _ hbl
    omega) hB
  have ho : OwnS f sz e B w' v' (l ++ [x]) := by
    unfold OwnS
    rw [List.length_append, List.flatMap_append]
    simpa using r2
  rcases ho.form with ⟨e1, e2⟩ | ⟨g', cap, cur, e1, hB', hA, -⟩
  · simp at e2
  · rw [List.length_append, List.length_singleton] at e1
    subst e1
    refine ⟨g', cap, w', r1, ho, r3, ?_⟩
    rcases r4 with r4 | r4
    · exact Or.inl r4.symm
    · exact Or.inr (Option.some.inj r4)
/-- One stack of the builder in the eye: C says all of the builder but its header. -/
structure Foc {α : Type} (f : α → List Value) (sz : Nat) (e t : TypeId) (B gb j : Nat) (hd : Value → List Value) (OK : World → α → Prop) (C : World → Value → List α → Prop) : Prop where
  fl : ∀ x, (f x).length = sz
  st : ∀ v v', (hd v).set j v' = hd v'
  ge : ∀ v, (hd v)[j]? = some v
  ne : e ≠ 78
  lo : B ≤ gb
  inf : ∃ zv by', Try.prog.underlying t = some (.slice e) ∧ (Try.prog.info? e).map (fun i => (i.zero, i.size, i.bytes)) = some (some zv, sz, by') ∧ zv.cells.size = sz ∧ by' ≤ 200 ∧ 0 < sz
  one : ∀ {w x}, OK w x → ∀ u ∈ f x, u.oneCell' = true
  own : ∀ {w v l}, C w v l → OwnS f sz e B w v l
  ok : ∀ {w v l}, C w v l → ∀ x ∈ l, OK w x
  okf : ∀ {w w' : World} {v : Value} {l : List α} {x : α} {cs : List Value} {R : Nat → Prop}, C w v l → Arr w gb 78 cs → OK w x → Fr R w w' → (∀ q, R q → v.ownBlock = some q ∨ w.heap.size ≤ q ∨ q = gb) → OK w' x
  upd : ∀ {w w' : World} {v v' : Value} {l l' : List α} {cs : List Value} {R : Nat → Prop}, C w v l → Arr w gb 78 cs → Fr R w w' → (∀ q, R q → v.ownBlock = some q ∨ w.heap.size ≤ q ∨ q = gb) → OwnS f sz e B w' v' l' → (∀ x ∈ l', OK w x) → (∀ q, v'.ownBlock = some q → v.ownBlock = some q ∨ w.heap.size ≤ q) → C w' v' l'
/-- Ahead of the append. -/
structure Ear {α : Type} (f : α → List Value) (e : TypeId) (gb : Nat) (w0 : World) (hd : Value → List Value) (OK : World → α → Prop) (XP ZP : α → Prop) (C : World → Value → List α → Prop) (v : Value) (l : List α) (o0 o5 : Option Value) (w : World) : Prop where
  fr : Fr (fun q => q = gb ∨ v.ownBlock = some q) w0 w
  ar : Arr w gb 78 (hd v)
  c : C w v l
  z : ∀ u, o0 = some u → ∃ g y, u = .slice (some ⟨g, 0, none⟩) 1 1 ∧ Arr w g e (f y) ∧ OK w y ∧ ZP y
  x : ∀ u, o5 = some u → ∃ y, u = .agg (f y).toArray ∧ OK w y ∧ XP y
/-- Behind it; y: what lies on top. -/
structure Lat {α : Type} (f : α → List Value) (e : TypeId) (gb : Nat) (w0 : World) (hd : Value → List Value) (OK : World → α → Prop) (C : World → Value → List α → Prop) (v : Value) (l : List α) (g c : Nat) (y : α) (b4 : Bool) (w : World) : Prop where
  fr : Fr (fun q => q = gb ∨ v.ownBlock = some q) w0 w
  ar : Arr w gb 78 (hd (if b4 then .slice (some ⟨g, 0, none⟩) (l.length + 1) c else v))
  c : C w (.slice (some ⟨g, 0, none⟩) (l.length + 1) c) (l ++ [y])
  nw : v.ownBlock = some g ∨ w0.heap.size ≤ g
section
variable {α : Type} {f : α → List Value} {sz : Nat} {e t : TypeId} {B gb j : Nat} {hd : Value → List Value} {OK : World → α → Prop} {C : World → Value → List α → Prop} {XP ZP : α → Prop} {w0 w : World} {v : Value} {l : List α} {o0 o5 : Option Value} {g c : Nat} {y : α} {b4 : Bool}
theorem Foc.keep (F : Foc f sz e t B gb j hd OK C) {w' : World} {cs : List Value} (h : C w v l) (a : Arr w gb 78 cs) (k : Keep w w') : C w' v l :=
  F.upd h a (Fr.keep (P := fun _ => False) k) (fun q x => x.elim) ((F.own h).keep k) (F.ok h) (fun q x => Or.inl x)
theorem Ear.nb (h : Ear f e gb w0 hd OK XP ZP C v l o0 o5 w) (F : Foc f sz e t B gb j hd OK C) : v.ownBlock ≠ some gb := OwnS.neA (F.own h.c) h.ar F.ne
theorem Ear.alloc (h : Ear f e gb w0 hd OK XP ZP C v l o0 o5 w) (F : Foc f sz e t B gb j hd OK C) (y : α) (hy : OK w y) (hz : ZP y) : Ear f e gb w0 hd OK XP ZP C v l (some (.slice (some ⟨w.heap.size, 0, none⟩) 1 1)) o5 (w.alloc (.cells (f y).toArray e)) := by
  have k : Keep w (w.alloc (.cells (f y).toArray e)) := (Keep.refl w).alloc _
  have ok : ∀ x, OK w x → OK (w.alloc (.cells (f y).toArray e)) x := fun x hx => F.okf h.c h.ar hx (Fr.keep (P := fun _ => False) k) (fun q x => x.elim)
  exact ⟨h.fr.trans (Fr.keep k), h.ar.keep k, F.keep h.c h.ar k, fun u hu => ⟨_, y, (Option.some.inj hu).symm, Arr.new w e _, ok y hy, hz⟩, fun u hu => by
    obtain ⟨x, a, b, c⟩ := h.x u hu
    exact ⟨x, a, ok x b, c⟩⟩
theorem Ear.allocAny (h : Ear f e gb w0 hd OK XP ZP C v l o0 o5 w) (F : Foc f sz e t B gb j hd OK C) {w' : World} (k : Keep w w') : Ear f e gb w0 hd OK XP ZP C v l o0 o5 w' := by
  have ok : ∀ x, OK w x → OK w' x := fun x hx => F.okf h.c h.ar hx (Fr.keep (P := fun _ => False) k) (fun q x => x.elim)
  exact ⟨h.fr.trans (Fr.keep k), h.ar.keep k, F.keep h.c h.ar k, fun u hu => by
    obtain ⟨g, y, a, b, c, d⟩ := h.z u hu
    exact ⟨g, y, a, b.keep k, ok y c, d⟩, fun u hu => by
    obtain ⟨x, a, b, c⟩ := h.x u hu
    exact ⟨x, a, ok x b, c⟩⟩
theorem Ear.elem (h : Ear f e gb w0 hd OK XP ZP C v l o0 o5 w) (y : α) (hy : OK w y) (hx : XP y) : Ear f e gb w0 hd OK XP ZP C v l o0 (some (.agg (f y).toArray)) w :=
  ⟨h.fr, h.ar, h.c, h.z, fun u hu => ⟨y, (Option.some.inj hu).symm, hy, hx⟩⟩
theorem Ear.app (F : Foc f sz e t B gb j hd OK C) {u0 : Value} (h : Ear f e gb w0 hd OK XP ZP C v l (some u0) o5 w) (hl : l.length ≤ 1000000) :
    ∃ g' c w' y, (Builtin.append_ #[t, t] t #[v, u0]).run Try.prog w = .ok (.slice (some ⟨g', 0, none⟩) (l.length + 1) c) w' ∧ Lat f e gb w0 hd OK C v l g' c y false w' ∧ ZP y ∧ (∀ x, OK w x → OK w' x) := by
  obtain ⟨g, y, rfl, ha, hoy, hz⟩ := h.z u0 rfl
  obtain ⟨zv, by', i1, i2, i3, i4, i5⟩ := F.inf
  have hB : B ≤ w.heap.size := Nat.le_trans F.lo (Nat.le_of_lt h.ar.lt)
  obtain ⟨g', c, w', r1, r2, r3, r4⟩ := app_own i1 i2 i3 i4 i5 F.fl (F.own h.c) g y ha (F.one hoy) hB hl
  have fr : Fr (fun q => v.ownBlock = some q) w w' := Fr.grown r3 (fun k e => e)
  have hnw : v.ownBlock = some g' ∨ w.heap.size ≤ g' := r4.elim Or.inl (fun a => Or.inr (by omega))
  refine ⟨g', c, w', y, r1, ⟨?_, ?_, ?_, hnw.elim Or.inl (fun a => Or.inr (Nat.le_trans h.fr.size a))⟩, hz, fun x hx => F.okf h.c h.ar hx fr (fun q a => Or.inl a)⟩
  · exact h.fr.trans (fr.mono (fun q _ a => Or.inr a))
  · exact fr.arr (fun a => h.nb F a) h.ar
  · refine F.upd h.c h.ar fr (fun q a => Or.inl a) r2 (fun x hx => ?_) (fun q a => ?_)
    · rcases List.mem_append.1 hx with a | a
      · exact F.ok h.c x a
      · rw [List.mem_singleton.1 a]; exact hoy
    · have e1 : g' = q := by simpa [Value.ownBlock] using a
      subst e1
      exact hnw
theorem Lat.store (F : Foc f sz e t B gb j hd OK C) (h : Lat f e gb w0 hd OK C v l g c y b4 w) (x : α) (hx : OK w x) : Lat f e gb w0 hd OK C v l g c x b4 (stC w g (l.length * sz) (f x)) := by
  have fr := stC_fr (g := g) (f x) w (l.length * sz)
  have hne : gb ≠ g := fun e => OwnS.neA (F.own h.c) h.ar F.ne (by rw [e]; rfl)
  refine ⟨?_, fr.arr hne h.ar, ?_, h.nw⟩
  · rcases h.nw with a | a
    · exact h.fr.trans (fr.mono (fun q _ e => Or.inr (by rw [show q = g from e]; exact a)))
    · exact fr_new h.fr fr (fun q e => by rw [show q = g from e]; exact a)
  · refine F.upd h.c h.ar fr (fun q e => Or.inl (by rw [show q = g from e]; rfl)) (OwnS.lastc F.fl rfl (F.own h.c) x) (fun z hz => ?_) (fun q a => Or.inl a)
    rcases List.mem_append.1 hz with a | a
    · exact F.ok h.c z (List.mem_append_left _ a)
    · rw [List.mem_singleton.1 a]; exact hx
theorem Lat.cells (F : Foc f sz e t B gb j hd OK C) (h : Lat f e gb w0 hd OK C v l g c y b4 w) : (∀ k < sz, ∃ u, w.cell? ⟨g, l.length * sz + k, none⟩ = some u) ∧ ∀ k, w.frozen? ⟨g, k, none⟩ = false := by
  rcases (F.own h.c).form with ⟨e1, e2⟩ | ⟨g', cap, cur, e1, hB, hA, hc, hm, hl, ht⟩
  · cases e1
  · injection e1 with e3 e4 e5
    injection e3 with e3
    injection e3 with e3
    subst e3
    refine ⟨fun k hk => ?_, fun k => hA.frozen k⟩
    have h1 : (l.length + 1) * sz ≤ cap * sz := Nat.mul_le_mul_right sz (by simpa using hc)
    rw [Nat.add_mul] at h1
    exact ⟨_, (hA.cell _).trans (List.getElem?_eq_getElem (by omega))⟩
theorem Lat.hdr (F : Foc f sz e t B gb j hd OK C) (h : Lat f e gb w0 hd OK C v l g c y b4 w) : Lat f e gb w0 hd OK C v l g c y true (w.setCell ⟨gb, j, none⟩ (.slice (some ⟨g, 0, none⟩) (l.length + 1) c)) := by
  have fr : Fr (fun q => q = gb) w (w.setCell ⟨gb, j, none⟩ (.slice (some ⟨g, 0, none⟩) (l.length + 1) c)) := Fr.setCell (P := fun q => q = gb) (p := ⟨gb, j, none⟩) (Fr.refl _ w) (Or.inl rfl) _
  have hne : g ≠ gb := fun e => OwnS.neA (F.own h.c) h.ar F.ne (by rw [e]; rfl)
  refine ⟨h.fr.trans (fr.mono (fun q _ a => Or.inl a)), ?_, ?_, h.nw⟩
  · rw [if_pos rfl]
    have := h.ar.set j (.slice (some ⟨g, 0, none⟩) (l.length + 1) c)
    rwa [F.st] at this
  · refine F.upd h.c h.ar fr (fun q e => Or.inr (Or.inr e)) ((F.own h.c).fr fr (fun q hq e => ?_)) (F.ok h.c) (fun q a => Or.inl a)
    have e1 : g = q := by simpa [Value.ownBlock] using hq
    exact hne (e1.trans e)
theorem Lat.okst (F : Foc f sz e t B gb j hd OK C) (h : Lat f e gb w0 hd OK C v l g c y b4 w) {x : α} (hx : OK w x) (l' : List Value) (o : Nat) : OK (stC w g o l') x :=
  F.okf h.c h.ar hx (stC_fr (g := g) l' w o) (fun q e => Or.inl (by rw [show q = g from e]; rfl))
theorem Lat.okhd (F : Foc f sz e t B gb j hd OK C) (h : Lat f e gb w0 hd OK C v l g c y b4 w) {x : α} (hx : OK w x) (u : Value) (k : Nat) : OK (w.setCell ⟨gb, k, none⟩ u) x :=
  F.okf h.c h.ar hx (Fr.setCell (P := fun q => q = gb) (p := ⟨gb, k, none⟩) (Fr.refl _ w) (Or.inl rfl) u) (fun q e => Or.inr (Or.inr e))
end
end Go.Proofs.Qxb6500772a
