/- blast: a system in memory: its frames, what turns while it is built, and what it is in the end. -/
import Derived.Test.Qxb6500772aHf
import Derived.Test.Qxb6500772aHe
import Derived.Test.Qxb6500772aEg
import Derived.Test.Qxb6500772aEe
namespace Go.Proofs.Qxb6500772a
open Go Go.RowKit Go.Qm
set_option linter.unusedVariables false
set_option linter.unusedSimpArgs false
/-- A frame in a list of frames: the block of its words, its fault bit. -/
def fmC (N : Nat) (p : Nat × Nat) : List Value := [.slice (some ⟨p.1, 0, none⟩) N N, .int .i64 ((p.2 : Nat) : Int)]
theorem fmC_len (N : Nat) (p : Nat × Nat) : (fmC N p).length = 2 := rfl
theorem fmC_one (N : Nat) (p : Nat × Nat) : ∀ u ∈ fmC N p, u.oneCell' = true := by intro u hu; simp [fmC] at hu; rcases hu with rfl | rfl <;> rfl
theorem inf48 : (Try.prog.info? 48).map (fun i => (i.zero, i.size, i.bytes)) = some (some (.agg #[.slice none 0 0, .int .i64 0]), 2, 32) := by kernel_rfl
theorem app_frame {w : World} {B N : Nat} {v : Value} {l : List (Nat × Nat)} (h : OwnS (fmC N) 2 48 B w v l) (g : Nat) (x : Nat × Nat) (hg : Arr w g 48 (fmC N x)) (hB : B ≤ w.heap.size) (hl : l.length ≤ 1000000) :
    ∃ b m c w', (Builtin.append_ #[49, 49] 49 #[v, .slice (some ⟨g, 0, none⟩) 1 1]).run Try.prog w = .ok (.slice b m c) w' ∧ OwnS (fmC N) 2 48 B w' (.slice b m c) (l ++ [x]) ∧ w.grownBy w' v.ownBlock ∧ ((Value.slice b m c).ownBlock = v.ownBlock ∨ (Value.slice b m c).ownBlock = some w.heap.size) := by
  obtain ⟨i, hi', hz', hs', hby⟩ := info_parts inf48
  have hnews : ∀ j u, (fmC N x)[j]? = some u → w.cell? ((⟨g, 0, none⟩ : Addr).add j) = some u := fun j u hu => by
    have e : (⟨g, 0, none⟩ : Addr).add j = ⟨g, j, none⟩ := by unfold Addr.add; split <;> simp_all
    rw [e, Arr.cell hg, hu]
  obtain ⟨v', w', r1, r2, r3, _, r4⟩ := run_append_own_at (P := Try.prog) w B 49 49 48 i _ 2 32 Try.underlying49 hi' hz' hs' hby rfl (by omega) v l.length (l.flatMap (fmC N)) h ⟨g, 0, none⟩ 1 1 (fmC N x) rfl hnews (fmC_one N x) (by simp only [maxLen]; omega) (by omega) hB
  have ho : OwnS (fmC N) 2 48 B w' v' (l ++ [x]) := by
    unfold OwnS
    rw [List.length_append, List.flatMap_append]
    simpa using r2
  obtain ⟨b, m, c, rfl⟩ := OwnS.isl ho
  exact ⟨b, m, c, w', r1, ho, r3, r4⟩
/-- A frame: its words, and that its block is none of those that turn. -/
structure FO (X : Nat → Prop) (gc : Nat) (gv : Value) (gS : Nat) (av : Value) (w : World) (G : List Gate) (ws : List Int) (S : SS) (gW fb : Nat) : Prop where
  wd : ∃ vs ls, Arr w gW 96 vs ∧ WDS X gc gv w G ws (fun i inp => (S inp).at i) vs ls ws.length
  bf : Bt G fb (fun inp => (S inp).fault)
  sl : ∀ inp, (S inp).cells.length = ws.length
  ns : gW ≠ gS
  nc : ¬ fpC gc gv gW
  na : av.ownBlock ≠ some gW
section
variable {B : Nat} {X X' P Y : Nat → Prop} {gB : Nat} {cv : Value} {gc gS : Nat} {cs : List Value} {w w' w2 : World} {gv gv' : Value} {G G' : List Gate} {n K : Nat} {av av' : Value} {ws : List Int} {S : SS} {gW fb : Nat}
theorem FO.pt (h : FO X gc gv gS av w G ws S gW fb) (s : PT Y gc gS w gv av X w' gv' av' X') (hs : X gS) (hp : ∀ q, av.ownBlock = some q → X q) (hY : ∀ q, Y q → X q) (hn : ¬ Y gW) (e : Ext K G G') : FO X' gc gv' gS av' w' G' ws S gW fb := by
  obtain ⟨vs, ls, a, d⟩ := h.wd
  obtain ⟨o1, o2⟩ := s.off a.lt h.nc h.na
  exact ⟨⟨vs, ls, s.arr a h.nc h.ns h.na hn, d.pt s hs hp hY e⟩, h.bf.ext e.pre, h.sl, h.ns, o1, o2⟩
theorem FO.frm (h : FO X gc gv gS av w G ws S gW fb) {oF : Nat} (a : Arr w gS 52 cs) (h0 : cs[oF]? = some (.slice (some ⟨gW, 0, none⟩) ws.length ws.length)) (h1 : cs[oF + 1]? = some (.int .i64 ((fb : Nat) : Int))) (hs : X gS) (hw : X gW) : ∃ vs ls, FRM X gc gv w G gS oF gW 52 cs ws S vs ls fb := by
  obtain ⟨vs, ls, aw, d⟩ := h.wd
  have hl := (List.getElem?_eq_some_iff.1 h1).1
  refine ⟨vs, ls, ?_, h0, hl, aw, d.lv, d.ll, hs, hw, fun e => h.ns e.symm, d.wo, d.wv, h.bf, h.sl⟩
  have e : cs.set (oF + 1) (.int .i64 ((fb : Nat) : Int)) = cs := by
    obtain ⟨h2, h3⟩ := List.getElem?_eq_some_iff.1 h1
    rw [← h3]; simp
  rw [e]
  exact a
theorem FRM.fo {oF : Nat} {ty : TypeId} {vs : List Value} {ls : List (List Nat)} (h : FRM X gc gv w G gS oF gW ty cs ws S vs ls fb) (b : BS B X P w gB cv gc gv G n) (hn : av.ownBlock ≠ some gW) : FO X gc gv gS av w G ws S gW fb :=
  ⟨⟨vs, ls, h.aw, h.lv, h.ll, h.wo, h.wv⟩, h.bf, h.sl, fun e => h.ne e.symm, (b.hx gW h.xw).2.1, hn⟩
theorem FO.congr (h : FO X gc gv gS av w G ws S gW fb) {S' : SS} (e : ∀ inp, S inp = S' inp) : FO X gc gv gS av w G ws S' gW fb := by
  have : S = S' := funext e
  rw [← this]; exact h
theorem FO.withAv (h : FO X gc gv gS av w G ws S gW fb) (hn : av'.ownBlock ≠ some gW) : FO X gc gv gS av' w G ws S gW fb := ⟨h.wd, h.bf, h.sl, h.ns, h.nc, hn⟩
theorem FO.pins {vs : List Value} {ls : List (List Nat)} (aw : Arr w gW 96 vs) (d : WDS X gc gv w G ws (inF ws n) vs ls ws.length) (b : Bt G fb (fun inp => inp (n + offW ws ws.length))) (h1 : gW ≠ gS) (h2 : ¬ fpC gc gv gW) (h3 : av.ownBlock ≠ some gW) : FO X gc gv gS av w G ws (stIn ws n) gW fb :=
  ⟨⟨vs, ls, aw, d.lv, d.ll, d.wo, fun i hi => (d.wv i hi).congr (fun inp => (stIn_at ws n inp i (by rw [← d.ll]; exact hi)).symm)⟩, b, fun inp => by simp [stIn], h1, h2, h3⟩
/-- Steps of a blaster as steps of the building. -/
theorem PT.st (s : ST B X P w gB cv gc gv G n K w' gv' G') : PT Y gc gS w gv av X w' gv' av X := ⟨s.st.1.mono (fun q _ a => Or.inl a), s.st.2, fun q a => Or.inl a, fun q a => a, fun q a => Or.inl a⟩
theorem PT.sx (s : SX (pF gS gW) B X P w gB cv gc gv G n K w' gv' G') : PT (fun q => q = gW) gc gS w gv av X w' gv' av X := ⟨s.sy.fr.mono (fun q _ a => by
    rcases a with a | a | a
    · exact Or.inl a
    · exact Or.inr (Or.inl a)
    · exact Or.inr (Or.inr (Or.inr a))), s.sy.nw, fun q a => Or.inl a, fun q a => a, fun q a => Or.inl a⟩
theorem PT.setS (i : Nat) (u : Value) : PT Y gc gS w gv av X (w.setCell ⟨gS, i, none⟩ u) gv av X :=
  ⟨(Fr.setCell (P := fun q => q = gS) (p := ⟨gS, i, none⟩) (Fr.refl _ w) (Or.inl rfl) u).mono (fun q _ a => Or.inr (Or.inl a)), fun q a => Or.inl a, fun q a => Or.inl a, fun q a => a, fun q a => Or.inl a⟩
theorem PT.more (k : Keep w w') {Z : Nat → Prop} (h1 : ∀ q, X q → Z q) (hZ : ∀ q, Z q → X q ∨ w.heap.size ≤ q) : PT Y gc gS w gv av X w' gv av Z := ⟨Fr.keep k, fun q a => Or.inl a, fun q a => Or.inl a, h1, hZ⟩
theorem PT.kp (s : PT Y gc gS w gv av X w' gv' av' X') (b : BS B X P w gB cv gc gv G n) (hs : X gS) (hp : ∀ q, av.ownBlock = some q → X q) (hY : ∀ q, Y q → X q) : KP P w w' := KP.fr s.fr (fun q a e => by
  rcases e with e | e | e | e
  · exact (b.hp q a).2 e
  · rw [e] at a; exact (b.hx gS hs).2.2 a
  · exact (b.hx q (hp q e)).2.2 a
  · exact (b.hx q (hY q e)).2.2 a)
theorem PT.keepF (s : PT Y gc gS w gv av X w' gv' av' X') {w0 : World} (k : Keep w0 w) (h1 : ∀ q, fpC gc gv q → w0.heap.size ≤ q) (h2 : w0.heap.size ≤ gS) (h3 : ∀ q, av.ownBlock = some q → w0.heap.size ≤ q) (h4 : ∀ q, Y q → w0.heap.size ≤ q) : Keep w0 w' :=
  ⟨s.fr.os.trans k.os, s.fr.tape.trans k.tape, s.fr.output.trans k.output, Nat.le_trans k.size s.fr.size, fun q hq => (s.fr.block q (Nat.lt_of_lt_of_le hq k.size) (fun a => by
    rcases a with a | a | a | a
    · have := h1 q a; omega
    · omega
    · have := h3 q a; omega
    · have := h4 q a; omega)).trans (k.block q hq)⟩
/-- A frame is appended. -/
theorem app_pt (h : BS B X P w gB cv gc gv G n) {N : Nat} {l : List (Nat × Nat)} (ho : OwnS (fmC N) 2 48 B w2 av' l) (hg : w.grownBy w2 av.ownBlock) (hb : av'.ownBlock = av.ownBlock ∨ av'.ownBlock = some w.heap.size) (hp : ∀ q, av.ownBlock = some q → X q) : BS B (fun q => X q ∨ av'.ownBlock = some q) P w2 gB cv gc gv G n ∧ PT Y gc gS w gv av X w2 gv av' (fun q => X q ∨ av'.ownBlock = some q) := by
  have f1 : Fr (fun q => av.ownBlock = some q) w w2 := Fr.grown hg (fun k e => e)
  have hZ : ∀ q, (X q ∨ av'.ownBlock = some q) → X q ∨ (w.heap.size ≤ q ∧ q < w2.heap.size) := fun q a => by
    rcases a with a | a
    · exact Or.inl a
    · rcases hb with e | e
      · exact Or.inl (hp q (by rw [← e]; exact a))
      · have hq := (ho.lt q a).2
        rw [e] at a
        have := Option.some.inj a
        exact Or.inr ⟨by omega, hq⟩
  refine ⟨h.moreF f1 hp hZ, ⟨f1.mono (fun q _ a => Or.inr (Or.inr (Or.inl a))), fun q a => Or.inl a, fun q a => ?_, fun q a => Or.inl a, fun q a => (hZ q a).imp id And.left⟩⟩
  rcases hb with e | e
  · exact Or.inl (by rw [← e]; exact a)
  · rw [e] at a
    have := Option.some.inj a
    exact Or.inr (by omega)
end
/-- The cells of a system. -/
def sysL (gc N gWc fbc gWn fbn gW3 fb3 : Nat) (av : Value) (b8 b9 b10 b11 : Nat) (pv : Value) : List Value := [.pointer (some ⟨gc, 0, none⟩), .slice (some ⟨gWc, 0, none⟩) N N, .int .i64 ((fbc : Nat) : Int), .slice (some ⟨gWn, 0, none⟩) N N, .int .i64 ((fbn : Nat) : Int), .slice (some ⟨gW3, 0, none⟩) N N, .int .i64 ((fb3 : Nat) : Int), av, .int .i64 ((b8 : Nat) : Int), .int .i64 ((b9 : Nat) : Int), .int .i64 ((b10 : Nat) : Int), .int .i64 ((b11 : Nat) : Int), pv]
def cwOf (cels : List Cel) : List Int := cels.map (·.w)
def cnOf (cels : List Cel) : List Int := cels.map (fun c => if c.inp = true then 0 else c.w)
/-- The state before the scan, and that behind it, as the inputs carry them. -/
def S0 (cels : List Cel) : SS := stIn (cwOf cels) 0
def S1 (cels : List Cel) : SS := stIn (cnOf cels) (offW (cwOf cels) (cwOf cels).length + 1)
def exF (cels : List Cel) (l : List (SF × EL × SL × SL)) (S : PS) : PS := l.foldl (exX (cwOf cels)) S
/-- The state of the loop: k statements are run. -/
structure BL (B : Nat) (P : Nat → Prop) (gB : Nat) (cv : Value) (gc gS : Nat) (cels : List Cel) (l : List (SF × EL × SL × SL)) (n : Nat) (pv : Value) (gWc fbc gWn fbn gW3 : Nat) (w1 : World) (gv1 : Value) (G1 : List Gate) (av1 : Value) (X1 : Nat → Prop) (k : Nat) (wr : World) (gv : Value) (G : List Gate) (av : Value) (X : Nat → Prop) (afl : List (Nat × Nat)) (fb3 : Nat) : Prop where
  bs : BS B X P wr gB cv gc gv G n
  pt : PT (fun q => q = gW3) gc gS w1 gv1 av1 X1 wr gv av X
  ex : Ext (131072 * nSs (l.take k)) G1 G
  ar : Arr wr gS 52 (sysL gc cels.length gWc fbc gWn fbn gW3 fb3 av 0 0 0 0 pv)
  ow : OwnS (fmC cels.length) 2 48 B wr av afl
  px : ∀ q, av.ownBlock = some q → X q ∧ q ≠ gS
  xs : X gS
  xw : X gW3
  fw : FO X gc gv gS av wr G (cwOf cels) (fun inp => exF cels (l.take k) (S0 cels inp)) gW3 fb3
  al : afl.length = k + 1
  af : ∀ i (h : i < afl.length), afl[i].1 ≠ gW3 ∧ FO X gc gv gS av wr G (cwOf cels) (fun inp => exF cels (l.take i) (S0 cels inp)) afl[i].1 afl[i].2
/-- Behind the loop: only the circuit and the system's cells turn. -/
structure BZ (B : Nat) (X P : Nat → Prop) (gB : Nat) (cv : Value) (gc gS : Nat) (n : Nat) (wr : World) (gvr : Value) (Gr : List Gate) (av : Value) (K : Nat) (w : World) (gv : Value) (G : List Gate) (cs : List Value) : Prop where
  bs : BS B X P w gB cv gc gv G n
  pt : PT (fun _ => False) gc gS wr gvr av X w gv av X
  ex : Ext K Gr G
  ar : Arr w gS 52 cs
section
variable {B : Nat} {X P : Nat → Prop} {gB : Nat} {cv : Value} {gc gS : Nat} {n : Nat} {wr w w' : World} {gvr gv gv' av : Value} {Gr G G' : List Gate} {K K' : Nat} {cs : List Value}
theorem BZ.call (h : BZ B X P gB cv gc gS n wr gvr Gr av K w gv G cs) (hx : X gS) (s : ST B X P w gB cv gc gv G n K' w' gv' G') : BZ B X P gB cv gc gS n wr gvr Gr av (K + K') w' gv' G' cs := ⟨s.bs, h.pt.trans (PT.st (Y := fun _ => False) s) (fun q a => a.elim), h.ex.trans s.ex, s.own h.bs h.ar (h.bs.hx gS hx).2.1⟩
theorem BZ.set (h : BZ B X P gB cv gc gS n wr gvr Gr av K w gv G cs) (hx : X gS) (i : Nat) (u : Value) : BZ B X P gB cv gc gS n wr gvr Gr av K (w.setCell ⟨gS, i, none⟩ u) gv G (cs.set i u) := ⟨h.bs.set hx u, h.pt.trans (PT.setS (Y := fun _ => False) i u) (fun q a => a.elim), h.ex, h.ar.set i u⟩
theorem BZ.keep (h : BZ B X P gB cv gc gS n wr gvr Gr av K w gv G cs) (k : Keep w w') : BZ B X P gB cv gc gS n wr gvr Gr av K w' gv G cs := ⟨h.bs.keep k, h.pt.trans (PT.keep (Y := fun _ => False) k) (fun q a => a.elim), h.ex, h.ar.keep k⟩
theorem BZ.fo (h : BZ B X P gB cv gc gS n wr gvr Gr av K w gv G cs) (hx : X gS) (ha : ∀ q, av.ownBlock = some q → X q) {ws : List Int} {S : SS} {gW fb : Nat} (f : FO X gc gvr gS av wr Gr ws S gW fb) : FO X gc gv gS av w G ws S gW fb := f.pt h.pt hx ha (fun q a => a.elim) (fun a => a) h.ex
theorem BZ.kp (h : BZ B X P gB cv gc gS n wr gvr Gr av K w gv G cs) (b : BS B X P wr gB cv gc gvr Gr n) (hx : X gS) (ha : ∀ q, av.ownBlock = some q → X q) : KP P wr w := h.pt.kp b hx ha (fun q a => a.elim)
end
theorem SLW.weak {P Q : Nat → Prop} (h : ∀ q, P q → Q q) {w : World} : ∀ {t : SL} {rows : List (List Value)}, SLW P w t rows → SLW Q w t rows
  | .nil, _, hr => hr
  | .cons f ex th el r, rows, hr => by
    obtain ⟨ev, er, tv, tr, lv, lr, rs, e, h0, h1, h2, h3, h4, h5, h6, h7⟩ := hr
    exact ⟨ev, er, tv, tr, lv, lr, rs, e, h0, h1.weak h, ELW.weak h h2, h3.weak h, SLW.weak h h4, h5.weak h, SLW.weak h h6, SLW.weak h h7⟩
/-- One statement of a list, as a list. -/
def oneS (x : SF × EL × SL × SL) : SL := .cons x.1 x.2.1 x.2.2.1 x.2.2.2 .nil
theorem SLW.one {P : Nat → Prop} {w : World} {t : SL} {rows : List (List Value)} (h : SLW P w t rows) {k : Nat} (hk : k < t.toL.length) (hr : k < rows.length) : SLW P w (oneS t.toL[k]) [rows[k]] := by
  obtain ⟨ev, er, tv, tr, lv, lr, e, h0, h1, h2, h3, h4, h5, h6⟩ := h.get k hk hr
  exact ⟨ev, er, tv, tr, lv, lr, [], by rw [e], h0, h1, h2, h3, h4, h5, h6, rfl⟩
theorem Rows.one' {P : Nat → Prop} {w : World} {b o m c sz : Nat} {rows : List (List Value)} (h : Rows P w (.slice (some ⟨b, o, none⟩) m c) sz rows) {k : Nat} (hk : k < rows.length) : Rows P w (.slice (some ⟨b, o + k * sz, none⟩) 1 (c - k)) sz [rows[k]] := by
  obtain ⟨a, c', e, h1, h2, h3⟩ := h
  injection e with e1 e2 e3
  subst e1 e2 e3
  refine ⟨_, c - k, rfl, by simp; omega, by omega, fun i hi => ?_⟩
  obtain rfl : i = 0 := by simpa using hi
  obtain ⟨b', o', e, hp, hb, hc⟩ := h3 k hk
  injection e with e
  injection e with e1 e2
  subst e1 e2
  exact ⟨b, o + k * sz, rfl, hp, hb, fun j hj => by simpa using hc j hj⟩
theorem nS_one (x : SF × EL × SL × SL) : nS (oneS x) = nY x := by simp [oneS, nS, nY]
theorem exL_one (cw : List Int) (x : SF × EL × SL × SL) (S : PS) : exL cw (oneS x) S = exX cw S x := rfl
theorem wtS_one {cw : List Int} {t : SL} (h : wtS cw t) {k : Nat} (hk : k < t.toL.length) : wtS cw (oneS t.toL[k]) := by
  have h9 := wtS_mem h _ (List.getElem_mem hk)
  exact ⟨h9.1, h9.2, trivial⟩
/-- A frame that is read. -/
structure FV (w : World) (G : List Gate) (ws : List Int) (S : SS) (gW fb : Nat) : Prop where
  wd : ∃ (vs : List Value) (ls : List (List Nat)), Arr w gW 96 vs ∧ vs.length = ws.length ∧ ls.length = ws.length ∧ (∀ i (h1 : i < vs.length) (h2 : i < ls.length), Wd w vs[i] ls[i]) ∧ ∀ i (h : i < ls.length), Wv G ls[i] (ws.getD i 0).toNat (fun inp => (S inp).at i)
  bf : Bt G fb (fun inp => (S inp).fault)
  sl : ∀ inp, (S inp).cells.length = ws.length
theorem FO.fv {X : Nat → Prop} {gc : Nat} {gv : Value} {gS : Nat} {av : Value} {w : World} {G : List Gate} {ws : List Int} {S : SS} {gW fb : Nat} (h : FO X gc gv gS av w G ws S gW fb) : FV w G ws S gW fb := by
  obtain ⟨vs, ls, a, d⟩ := h.wd
  exact ⟨⟨vs, ls, a, d.lv, d.ll, fun i h1 h2 => (d.wo i h1 h2).wd, d.wv⟩, h.bf, h.sl⟩
theorem FV.keep {w w' : World} {G : List Gate} {ws : List Int} {S : SS} {gW fb : Nat} (h : FV w G ws S gW fb) (k : Keep w w') : FV w' G ws S gW fb := by
  obtain ⟨vs, ls, a, h1, h2, h3, h4⟩ := h.wd
  exact ⟨⟨vs, ls, a.keep k, h1, h2, fun i a1 a2 => Sl.keep (h3 i a1 a2) k, h4⟩, h.bf, h.sl⟩
/-- A system in memory. -/
structure SYSW (B : Nat) (cels : List Cel) (body : SL) (f : EF) (t : EL) (w : World) (gS gc : Nat) (gv : Value) (G : List Gate) (pv av : Value) (afl : List (Nat × Nat)) (gWc fbc gWn fbn gW3 fb3 b8 b9 b10 b11 : Nat) : Prop where
  ar : Arr w gS 52 (sysL gc cels.length gWc fbc gWn fbn gW3 fb3 av b8 b9 b10 b11 pv)
  cc : CC B (fun _ => False) w gc gv G (pinAll (cwOf cels) (cnOf cels)).length
  wf : WFG G
  gl : G.length ≤ 800000000
  pn : OwnS pinVC 3 67 B w pv (pinAll (cwOf cels) (cnOf cels))
  cur : FV w G (cwOf cels) (S0 cels) gWc fbc
  nxt : FV w G (cnOf cels) (S1 cels) gWn fbn
  stp : FV w G (cwOf cels) (fun inp => exL (cwOf cels) body (S0 cels inp)) gW3 fb3
  aw : OwnS (fmC cels.length) 2 48 B w av afl
  al : afl.length = body.toL.length + 1
  aft : ∀ i (h : i < afl.length), FV w G (cwOf cels) (fun inp => exF cels (body.toL.take i) (S0 cels inp)) afl[i].1 afl[i].2
  ini : Bt G b8 (fun inp => !(S0 cels inp).fault && allC cels (fun c i => c.inp || decide ((S0 cels inp).at i = c.ini)) cels.length)
  leg : Bt G b9 (fun inp => allC cels (legB (S0 cels inp)) cels.length)
  trn : Bt G b10 (fun inp => allC cels (legB (S0 cels inp)) cels.length && (decide ((exL (cwOf cels) body (S0 cels inp)).fault = (S1 cels inp).fault) && allC cels (fun c i => c.inp || decide ((exL (cwOf cels) body (S0 cels inp)).at i = (S1 cels inp).at i)) cels.length))
  bad : Bt G b11 (fun inp => decide ((evOne f (evL t (S0 cels inp)) t.ws (S0 cels inp)).1 = 1))
theorem SYSW.keep {B : Nat} {cels : List Cel} {body : SL} {f : EF} {t : EL} {w w' : World} {gS gc : Nat} {gv : Value} {G : List Gate} {pv av : Value} {afl : List (Nat × Nat)} {gWc fbc gWn fbn gW3 fb3 b8 b9 b10 b11 : Nat} (h : SYSW B cels body f t w gS gc gv G pv av afl gWc fbc gWn fbn gW3 fb3 b8 b9 b10 b11) (k : Keep w w') : SYSW B cels body f t w' gS gc gv G pv av afl gWc fbc gWn fbn gW3 fb3 b8 b9 b10 b11 :=
  ⟨h.ar.keep k, h.cc.keep k, h.wf, h.gl, h.pn.keep k, h.cur.keep k, h.nxt.keep k, h.stp.keep k, h.aw.keep k, h.al, fun i hi => (h.aft i hi).keep k, h.ini, h.leg, h.trn, h.bad⟩
end Go.Proofs.Qxb6500772a
