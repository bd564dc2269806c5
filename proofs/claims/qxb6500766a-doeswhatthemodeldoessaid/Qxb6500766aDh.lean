/- foldindex: fetch. -/
import Derived.Test.Qxb6500766aDe
import Derived.Test.Qxb6500766aDf
namespace Go.Proofs.Qxb6500766a
open Go.RowKit Go.Qm
set_option linter.unusedVariables false
set_option linter.unusedSimpArgs false
attribute [local go_sem ↓] Go.wp_at_zero Go.wp_at_succ
theorem StkW.apart {B : Nat} {w w' : World} {gs gc ck : Nat} {vs : List Value} {R R' : Sys} {sh : List Shelf} {tl : List Value} {G : Nat → Option Tb} (S : StkW B w gs vs R) (C : CW B w gs gc ck R' sh tl G) (fr : Fr (cf gc G) w w') : StkW B w' gs vs R :=
  S.fr fr (C.out S.A (by decide) (by decide) (by decide)) (fun q hq => by
    obtain ⟨cs, a⟩ := S.rty hq
    exact C.out a (by decide) (by decide) (by decide))
theorem StkW.grownC {B : Nat} {w w' : World} {gs gc ck : Nat} {vs : List Value} {R R' : Sys} {sh : List Shelf} {tl : List Value} {G : Nat → Option Tb} (S : StkW B w gs vs R) (C : CW B w gs gc ck R' sh tl G) (gr : w.grownBy w' (some gc)) : StkW B w' gs vs R :=
  S.apart C (fr_in' (grown_fr gr))
where fr_in' {gc : Nat} {G : Nat → Option Tb} {w w' : World} (h : Fr (fun q => q = gc) w w') : Fr (cf gc G) w w' := h.mono (fun q _ a => Or.inl a)
def FetP (B : Nat) (w : World) (gs gc ck d : Nat) (R : Sys) (G : Nat → Option Tb) (e : Ending) (w' : World) : Prop :=
  ∃ (i : Nat) (t : Tb) (sh' : List Shelf) (tl' : List Value) (G' : Nat → Option Tb), e = .returned (.pointer (some ⟨gc, 1 + i * 6 + 3, none⟩)) ∧ CW B w' gs gc (ck + 1) R sh' tl' G' ∧ G' i = some t ∧ t.dir = d ∧ w.grownBy w' (some gc) ∧ ∀ q, cf gc G' q → cf gc G q ∨ w.heap.size ≤ q
set_option maxRecDepth 4000 in
set_option maxHeartbeats 4000000 in
theorem fetch_c (B gs gc d ck : Nat) (vs : List Value) (sh : List Shelf) (tl : List Value) (R : Sys) (G : Nat → Option Tb) (w : World) (SW : StkW B w gs vs R) (C : CW B w gs gc ck R sh tl G) (hd : d < 24) (hck : ck ≤ 1000000000000) (hB : B ≤ w.heap.size) :
    Calls Try.prog 42 #[.pointer (some ⟨gc, 0, none⟩), .int .i64 d] w fun e w' => FetP B w gs gc ck d R G e w' := by
  obtain ⟨x0, x1, x2, x3, x4, x5, rfl⟩ := C.tl
  have c0 := Arr.tl C.A C.len 0
  have f0 := Go.Qm.Arr.frozen C.A (97 + 0)
  have A1 := Arr.tlSet C.A C.len 0 (.int .u64 ((ck : Int) + 1))
  have gr1 := grown_set (grown_refl w (some gc)) 97 (.int .u64 ((ck : Int) + 1))
  simp only [tlL, List.getElem?_cons_zero, List.set_cons_zero, Nat.add_zero] at c0 f0 A1
  have C1 := C.tlUp (ck' := ck + 1) A1 ⟨x0, x1, x2, x3, x4, x5, rfl⟩ (Nat.le_succ _) gr1
  have SW1 := SW.grownC C gr1
  clear A1
  go_enter Try.func42, Try.ntmps42
  go_wp2_with fail
  generalize w.setCell ⟨gc, 97, none⟩ (.int .u64 ((ck : Int) + 1)) = w1 at *
  refine (seatG_c d w1 C1).mono ?_
  rintro e w2 ⟨hs, rfl⟩
  clear c0 f0
  have z0 := Arr.tl C1.A C1.len 0
  have z2 := Arr.tl C1.A C1.len 2
  have g2 := Go.Qm.Arr.frozen C1.A (97 + 2)
  have A2 := Arr.tlSet C1.A C1.len 2 (.int .i64 (wrap64 (x1 + 1)))
  have gr2 := grown_set (grown_refl w2 (some gc)) 99 (.int .i64 (wrap64 (x1 + 1)))
  simp only [List.getElem?_cons_zero, List.getElem?_cons_succ, List.set_cons_succ, List.set_cons_zero, Nat.reduceAdd] at z0 z2 g2 A2
  rcases hs with ⟨i, t, hi, rfl, hG, hdt⟩ | ⟨rfl, hno⟩
  · have HG := Hid.mk hG
    have HDT := Hid.mk hdt
    clear hG hdt
    have C2 := C1.tlUp (ck' := ck + 1) A2 ⟨x0, _, x2, x3, x4, x5, rfl⟩ (Nat.le_refl _) gr2
    have i1 : (i : Int) ≥ 0 := by omega
    have i2 : (i : Int) < 16 := by omega
    have u0 := Arr.tl C2.A C2.len 0
    simp only [List.getElem?_cons_zero, Nat.add_zero] at u0
    have v0 : ∃ s, (w2.setCell ⟨gc, 99, none⟩ (.int .i64 (wrap64 (x1 + 1)))).cell? ⟨gc, 1 + i * 6 + 2, none⟩ = some (.int .u64 s) := ⟨_, (Arr.shelf C2.A (by rw [C2.len]; exact hi)).2.2.1⟩
    obtain ⟨s0, v0⟩ := v0
    have h0 := Go.Qm.Arr.frozen C2.A (1 + i * 6 + 2)
    obtain ⟨sh3, C3⟩ := C2.stamp (i := i) (x := ((ck : Int) + 1)) HG.out (by omega) (by omega)
    have gr3 := grown_set gr2 (1 + i * 6 + 2) (.int .u64 ((ck : Int) + 1))
    clear A2 C1 z0
    go_upto_region 7 with fail
    generalize hW : w2.setCell ⟨gc, 99, none⟩ (.int .i64 (wrap64 (x1 + 1))) = W at *
    clear z2 g2
    go_region
    go_wp2_with fail
    go_ret
    exact ⟨i, t, sh3, _, G, rfl, C3.keep ((Keep.refl _).drew), HG.out, by have := HDT.out; omega, grown_drew (grown_trans gr1 gr3), fun q a => Or.inl a⟩
  · have HNO := Hid.mk hno
    clear hno z0 z2 g2 A2 gr2
    go_wp2_with fail
    refine (room_c gc _ _ _ _ w2 C1.A C1.len C1.tl).mono ?_
    rintro e w3 hr
    obtain ⟨i, sh3, tl3, G3, hi, rfl, C3, hn3, hsub, gr3⟩ := C1.room hr
    have SW3 := SW1.grownC C1 gr3
    have i1 : (i : Int) < 16 := by omega
    have i0 : (0 : Int) ≤ i := by omega
    have HN3 := Hid.mk hn3
    have HSUB := Hid.mk hsub
    clear hn3 hsub hr
    have BC := fun W (k : Keep w3 W) => build_c B gs gc d (ck + 1) vs sh3 tl3 R W (SW3.fr (P := fun _ => False) (Fr.keep k) (fun a => a) (fun _ _ a => a)) (C3.A.keep k) C3.len C3.tl hd
    have HBC := Hid.mk BC
    have HGR : Hid (∀ W, Keep w3 W → ∀ w4, W.grownBy w4 (some gc) → w3.grownBy w4 (some gc)) := Hid.mk (fun W k w4 g => grown_trans (keep_grown k _) g)
    clear BC C1 SW1
    go_upto_region 6 with fail
    have HLN := Hid.mk C3.len
    have HPL : Hid (∀ b ss w4 tl4, w3.grownBy w4 (some gc) → Arr w4 gc 75 (cacheL (.pointer (some ⟨gs, 0, none⟩)) sh3 tl4) → TlOK ((ck + 1 : Nat) : Int) tl4 → TabW w3.heap.size w4 b ss (R d) → _) := Hid.mk (fun b ss w4 tl4 g A T TW => C3.place hi HN3.out hd (fun j u e a => HNO.out j u (HSUB.out j u e) (by omega)) (b := b) (ss := ss) (Nat.le_trans hB (Nat.le_trans gr1.size gr3.size)) g A T TW)
    go_region_with (go_at_call 61; refine (HBC.out _ ((Keep.refl _).drew)).mono ?_; rintro e w4 ⟨b, ss, tl4, rfl, TW, A4, t4, gr4⟩; obtain ⟨c0, c1, c2, c3, c4, c5⟩ := Arr.shelf A4 (i := i) (by rw [HLN.out]; exact hi); have f0 := Go.Qm.Arr.frozen A4 (1 + i * 6); have f1 := Go.Qm.Arr.frozen A4 (1 + i * 6 + 1); have f2 := Go.Qm.Arr.frozen A4 (1 + i * 6 + 2); have f3 := Go.Qm.Arr.frozen A4 (1 + i * 6 + 3); have f4 := Go.Qm.Arr.frozen A4 (1 + i * 6 + 4); have f5 := Go.Qm.Arr.frozen A4 (1 + i * 6 + 5))
    have gr34 := HGR.out _ ((Keep.refl w3).drew) w4 gr4
    have GF := grown_set (grown_set (grown_set (grown_set (grown_set (grown_set gr34 (1 + i * 6) (.bool true)) (1 + i * 6 + 1) (.int .i64 d)) (1 + i * 6 + 2) (.int .u64 0)) (1 + i * 6 + 3) (.slice (some ⟨b, 0, none⟩) ss.length ss.length)) (1 + i * 6 + 4) (.int .i64 ((LiveL ss).length : Nat))) (1 + i * 6 + 5) (.int .i64 (deadN ss : Nat))
    obtain ⟨sh5, C5⟩ := HPL.out b ss w4 tl4 gr34 A4 t4 TW
    have HTO : Hid (∀ q, tf b ss q → w3.heap.size ≤ q) := Hid.mk (fun q hq => (TW.lo hq).1)
    clear c0 c1 c2 c3 c4 c5 f0 f1 f2 f3 f4 f5 TW A4 gr4
    generalize (((((w4.setCell ⟨gc, 1 + i * 6, none⟩ (.bool true)).setCell ⟨gc, 1 + i * 6 + 1, none⟩ (.int .i64 d)).setCell ⟨gc, 1 + i * 6 + 2, none⟩ (.int .u64 0)).setCell ⟨gc, 1 + i * 6 + 3, none⟩ (.slice (some ⟨b, 0, none⟩) ss.length ss.length)).setCell ⟨gc, 1 + i * 6 + 4, none⟩ (.int .i64 ((LiveL ss).length : Nat))).setCell ⟨gc, 1 + i * 6 + 5, none⟩ (.int .i64 (deadN ss : Nat)) = w5 at *
    obtain ⟨y0, y1, y2, y3, y4, y5, rfl⟩ := t4
    have u0 := Arr.tl C5.A C5.len 0
    simp only [tlL, List.getElem?_cons_zero, Nat.add_zero] at u0
    obtain ⟨s0, v0⟩ : ∃ s, w5.cell? ⟨gc, 1 + i * 6 + 2, none⟩ = some (.int .u64 s) := ⟨_, (Arr.shelf C5.A (i := i) (by rw [C5.len]; exact hi)).2.2.1⟩
    have h0 := Go.Qm.Arr.frozen C5.A (1 + i * 6 + 2)
    obtain ⟨sh6, C6⟩ := C5.stamp (i := i) (x := ((ck + 1 : Nat) : Int)) (updG_self _ _ _) (by omega) (by omega)
    have GF6 := grown_set GF (1 + i * 6 + 2) (.int .u64 ((ck + 1 : Nat) : Int))
    generalize hck1 : ((ck + 1 : Nat) : Int) = ck1 at *
    clear hck1
    go_wp2_with fail
    go_region
    go_wp2_with fail
    go_ret
    refine ⟨i, _, sh6, _, _, rfl, C6.keep ((Keep.refl _).drew), updG_self _ _ _, rfl, grown_drew (grown_trans gr1 (grown_trans gr3 GF6)), ?_⟩
    rintro q (a | ⟨j, u, e, a⟩)
    · exact Or.inl (Or.inl a)
    · by_cases ej : j = i
      · subst ej
        rw [updG_self] at e
        cases e
        have := HTO.out q a
        have := gr1.size
        have := gr3.size
        exact Or.inr (by omega)
      · rw [updG_ne G3 _ ej] at e
        exact Or.inl (Or.inr ⟨j, u, HSUB.out j u e, a⟩)
end Go.Proofs.Qxb6500766a
