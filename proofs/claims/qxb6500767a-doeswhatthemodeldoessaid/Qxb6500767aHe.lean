/- ReaddirPagesTile: what stays while pages are read. -/
import Derived.Test.Qxb6500767aHd
namespace Go.Proofs.Qxb6500767a
open Go.RowKit Go.Qm
set_option linter.unusedVariables false
set_option linter.unusedSimpArgs false
attribute [local go_sem ↓] Go.wp_at_zero Go.wp_at_succ
structure TL (w1 : World) (fp : Nat → Prop) (W : World) (gw gf gt N u : Nat) (hs : List Hd) (T : List Nd) (v : Value) (al : List Dir) : Prop where
  ww : WW w1.heap.size fp W gw gf gt ⟨u, hs, T⟩
  si : SI N u hs T
  dv : DirO w1.heap.size W v al
  nb : ∀ q, v.ownBlock = some q → ¬ fpV fp gf q
  kp : Keep w1 W
section
variable {w1 W W' : World} {fp fp' : Nat → Prop} {gw gf gt N u : Nat} {hs hs' : List Hd} {T : List Nd} {v : Value} {al : List Dir}
theorem TL.keep (h : TL w1 fp W gw gf gt N u hs T v al) (k : Keep W W') : TL w1 fp W' gw gf gt N u hs T v al := ⟨h.ww.keep k, h.si, h.dv.keep k, h.nb, h.kp.trans k⟩
theorem stpN {fp fp' : Nat → Prop} {w w' : World} (st : Stp fp fp' w w') {q : Nat} (hq : q < w.heap.size) (h : ¬ fp q) : ¬ fp' q := fun a => (st.2 q a).elim h (fun b => by omega)
theorem TL.stp (h : TL w1 fp W gw gf gt N u hs T v al) (V : VW w1.heap.size fp' W' gf gt u hs' T) (st : Stp (fpV fp gf) (fpV fp' gf) W W') (si : SI N u hs' T) : TL w1 fp' W' gw gf gt N u hs' T v al :=
  ⟨h.ww.stp V st, si, h.dv.fr st.1 h.nb, fun q hq => stpN st (h.dv.lt q hq).2 (h.nb q hq), Stp.keepB h.kp h.ww (Nat.le_refl _) st⟩
/-- A page that has just been read. -/
theorem TL.mk' (h : WW w1.heap.size fp W gw gf gt ⟨u, hs, T⟩) (k : Keep w1 W) (V : VW w1.heap.size fp W' gf gt u hs' T) (st : Stp (fpV fp gf) (fpV fp gf) W W') (si : SI N u hs' T) (dv : DirO W.heap.size W' v al) : TL w1 fp W' gw gf gt N u hs' T v al :=
  ⟨h.stp V st, si, dv.mono k.size, fun q hq a => by have := h.v.flt a; have := (dv.lt q hq).1; omega, Stp.keepB k h (Nat.le_refl _) st⟩
end
/-- The cells of entry i of a page. -/
theorem DirO.get {B : Nat} {w : World} {v : Value} {l : List Dir} (h : DirO B w v l) {g cap : Nat} (hv : v = .slice (some ⟨g, 0, none⟩) l.length cap) {i : Nat} (hi : i < l.length) :
    w.cell? ⟨g, i * 4, none⟩ = some (str l[i].key) ∧ w.cell? ⟨g, i * 4 + 1, none⟩ = some (str l[i].name) ∧ w.cell? ⟨g, i * 4 + 2, none⟩ = some (.int .i64 (l[i].kind : Nat)) ∧ w.cell? ⟨g, i * 4 + 3, none⟩ = some (.int .i64 (l[i].ino : Nat)) := by
  rcases h.form with ⟨-, e⟩ | ⟨g', cap', cur, hv', -, hA, hc, hmx, -, ht⟩
  · rw [e] at hi; simp at hi
  · rw [hv] at hv'
    simp only [Value.slice.injEq, Option.some.injEq, Addr.mk.injEq] at hv'
    obtain ⟨⟨rfl, -⟩, -⟩ := hv'
    have e : ∀ j, j < 4 → w.cell? ⟨g, i * 4 + j, none⟩ = (dirC l[i])[j]? := fun j hj => by
      rw [hA.cell]; exact flat_take_get dirC_length ht i j hi hj
    exact ⟨e 0 (by omega), e 1 (by omega), e 2 (by omega), e 3 (by omega)⟩
theorem DirO.shape {B : Nat} {w : World} {v : Value} {l : List Dir} (h : DirO B w v l) (hl : l ≠ []) : ∃ g cap, v = .slice (some ⟨g, 0, none⟩) l.length cap ∧ l.length ≤ cap ∧ cap ≤ maxLen := by
  rcases h.form with ⟨-, e⟩ | ⟨g', cap', cur, hv', -, hA, hc, hmx, -, ht⟩
  · exact absurd e hl
  · exact ⟨g', cap', hv', hc, hmx⟩
/-- All that the law needs of an open directory: H q, the handles behind q entries; al, the entries. -/
theorem tile_pack {N u : Nat} {hs : List Hd} {T : List Nd} {h nd : Nat} (si : SI N u (hs.set h (dirH nd [])) T) (hh : h < hs.length) (h32 : h < 32) (hb : u.testBit h = true) :
    ∃ (H : Nat → List Hd) (al : List Dir), H 0 = hs.set h (dirH nd []) ∧ al.length ≤ N ∧
      (∀ q, q ≤ al.length → ∀ m : Int, 1 ≤ m → rddF u (H q) T h m = (H (q + min m.toNat (al.length - q)), (al.drop q).take m.toNat, 0)) ∧
      (∀ q, skF u (H q) T h 0 0 = (H 0, 0, 0)) ∧ (∀ q, SI N u (H q) T) ∧ (∀ q, (clsF u (H q) T h).2.2.2 = 0) ∧
      (∀ i (hi : i + 1 < al.length), lessB al[i].key al[i + 1].key = true) ∧ (∀ i (hi : i < al.length), al[i].key.length ≤ 1000000) := by
  have hsrt := si.t.srt nd
  have hke := fun e (he : e ∈ (at' T nd).edges) => (si.t.keys nd e he).1
  have hkl := fun e (he : e ∈ (at' T nd).edges) => (si.t.keys nd e he).2
  have hfew := si.t.few nd
  have hcur : ∀ q, (curAt (at' T nd).edges q).length ≤ 4000 := fun q => by
    cases q with
    | zero => exact Nat.zero_le _
    | succ q =>
      show ((at' T nd).edges.getD q ⟨[], [], 0⟩).key.length ≤ 4000
      rw [List.getD_eq_getElem?_getD]
      cases e : (at' T nd).edges[q]? with
      | none => exact Nat.zero_le _
      | some x => exact hkl x (List.mem_of_getElem? e)
  refine ⟨fun q => hs.set h (dirH nd (curAt (at' T nd).edges q)), (at' T nd).edges.map (dirOf T), rfl, by rw [List.length_map]; exact hfew, fun q hq m hm => ?_, fun q => sk_dir hh h32 hb, fun q => ?_, fun q => cls_dir h32 hb, fun i hi => ?_, fun i hi => ?_⟩
  · rw [List.length_map] at hq ⊢
    rw [rdd_dir hh h32 hb hm, page_at hsrt hke hq, last_at hq, List.map_take, List.map_drop]
  · have := si.h.hset h32 (dirH nd (curAt (at' T nd).edges q)) (by rw [hat_set hh]; rfl) (by rw [hat_set hh]; rfl) (Nat.zero_le _) (hcur q)
    rw [List.set_set] at this
    exact ⟨si.t, this⟩
  · rw [List.getElem_map, List.getElem_map]
    rw [List.length_map] at hi
    exact List.pairwise_iff_getElem.1 hsrt i (i + 1) (by omega) hi (by omega)
  · rw [List.getElem_map]
    have := hkl _ (List.getElem_mem (by simpa using hi))
    show ((at' T nd).edges[i]'(by simpa using hi)).key.length ≤ 1000000
    omega
end Go.Proofs.Qxb6500767a
