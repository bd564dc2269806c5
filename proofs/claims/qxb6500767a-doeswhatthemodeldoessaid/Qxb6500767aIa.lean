/- unionvfslaw: views. -/
import Derived.Test.Qxb6500767aSmall
import Derived.Test.Qxb6500767aGk
import Derived.Deep.MidRow
import Derived.Laws.Tables
import Derived.Laws.Rows
namespace Go.Proofs.Qxb6500767a
open Go.RowKit Go.Qm
set_option linter.unusedVariables false
set_option linter.unusedSimpArgs false
attribute [local go_sem ↓] Go.wp_at_zero Go.wp_at_succ
theorem vwC_length (x : Vw) : (vwC x).length = 6 := rfl
theorem s49 : (Try.prog.info? 49).map (·.size) = some 192 := by kernel_rfl
theorem vw_len (l : List Vw) : (l.flatMap vwC).length = l.length * 6 := by
  induction l with
  | nil => rfl
  | cons x l ih => rw [List.flatMap_cons, List.length_append, ih, vwC_length, List.length_cons]; omega
theorem vw_ones (l : List Vw) : ((l.flatMap vwC).toArray).all (·.oneCell') = true := by
  rw [Array.all_eq_true_iff_forall_mem]
  intro x hx
  simp only [List.mem_toArray, List.mem_flatMap] at hx
  obtain ⟨y, -, hy⟩ := hx
  simp [vwC] at hy
  rcases hy with rfl | rfl | rfl | rfl | rfl | rfl <;> rfl
/-- The views of all handles. -/
def viewsF (u : Nat) (hs : List Hd) : List Vw := (List.range 32).map fun n => lookF u hs (n : Nat)
theorem viewsF_length (u : Nat) (hs : List Hd) : (viewsF u hs).length = 32 := by simp [viewsF]
theorem viewsF_get {u : Nat} {hs : List Hd} {n : Nat} (h : n < 32) : (viewsF u hs)[n]? = some (lookF u hs (n : Nat)) := by
  unfold viewsF; rw [List.getElem?_map, List.getElem?_range h]; rfl
/-- An array of views is set at n. -/
theorem _root_.Go.Qm.Arr.view {w : World} {g : Nat} {l : List Vw} (h : Arr w g 49 (l.flatMap vwC)) {n : Nat} (hn : n < l.length) (x : Vw) :
    Arr ((((((w.setCell ⟨g, n * 6, none⟩ (.bool x.opn)).setCell ⟨g, n * 6 + 1, none⟩ (.int .i64 (x.node : Nat))).setCell ⟨g, n * 6 + 2, none⟩ (.int .i64 x.flags)).setCell ⟨g, n * 6 + 3, none⟩ (.bool x.dir)).setCell ⟨g, n * 6 + 4, none⟩ (.int .i64 (x.off : Nat))).setCell ⟨g, n * 6 + 5, none⟩ (str x.cur)) g 49 ((l.set n x).flatMap vwC) := by
  have stp : ∀ (W : World) (l : List Vw) (j : Nat) (y : Vw) (v : Value), Arr W g 49 (l.flatMap vwC) → n < l.length → j < 6 → (∀ hn : n < l.length, vwC y = (vwC l[n]).set j v) → Arr (W.setCell ⟨g, n * 6 + j, none⟩ v) g 49 ((l.set n y).flatMap vwC) := by
    intro W l j y v hA hn hj hx
    have A := hA.set (n * 6 + j) v
    rw [flat_set vwC_length l n j hn hj y v (hx hn)] at A
    exact A
  have h0 := stp w l 0 { l[n] with opn := x.opn } (.bool x.opn) h hn (by omega) (fun _ => rfl)
  have h1 := stp _ _ 1 { l[n] with opn := x.opn, node := x.node } (.int .i64 (x.node : Nat)) h0 (by simpa using hn) (by omega) (fun _ => by rw [List.getElem_set_self]; rfl)
  rw [List.set_set] at h1
  have h2 := stp _ _ 2 { l[n] with opn := x.opn, node := x.node, flags := x.flags } (.int .i64 x.flags) h1 (by simpa using hn) (by omega) (fun _ => by rw [List.getElem_set_self]; rfl)
  rw [List.set_set] at h2
  have h3 := stp _ _ 3 { l[n] with opn := x.opn, node := x.node, flags := x.flags, dir := x.dir } (.bool x.dir) h2 (by simpa using hn) (by omega) (fun _ => by rw [List.getElem_set_self]; rfl)
  rw [List.set_set] at h3
  have h4 := stp _ _ 4 { l[n] with opn := x.opn, node := x.node, flags := x.flags, dir := x.dir, off := x.off } (.int .i64 (x.off : Nat)) h3 (by simpa using hn) (by omega) (fun _ => by rw [List.getElem_set_self]; rfl)
  rw [List.set_set] at h4
  have h5 := stp _ _ 5 x (str x.cur) h4 (by simpa using hn) (by omega) (fun _ => by rw [List.getElem_set_self]; rfl)
  rw [List.set_set, Nat.add_zero] at h5
  exact h5
theorem _root_.Go.Qm.Arr.vget {w : World} {g : Nat} {l : List Vw} (h : Arr w g 49 (l.flatMap vwC)) {n : Nat} (hn : n < l.length) :
    w.cell? ⟨g, n * 6, none⟩ = some (.bool l[n].opn) ∧ w.cell? ⟨g, n * 6 + 1, none⟩ = some (.int .i64 (l[n].node : Nat)) ∧ w.cell? ⟨g, n * 6 + 2, none⟩ = some (.int .i64 l[n].flags) ∧ w.cell? ⟨g, n * 6 + 3, none⟩ = some (.bool l[n].dir) ∧ w.cell? ⟨g, n * 6 + 4, none⟩ = some (.int .i64 (l[n].off : Nat)) ∧ w.cell? ⟨g, n * 6 + 5, none⟩ = some (str l[n].cur) := by
  have e : ∀ j, j < 6 → w.cell? ⟨g, n * 6 + j, none⟩ = (vwC l[n])[j]? := fun j hj => by
    rw [h.cell]; exact flat_get vwC 6 vwC_length l n j hn hj
  exact ⟨e 0 (by omega), e 1 (by omega), e 2 (by omega), e 3 (by omega), e 4 (by omega), e 5 (by omega)⟩
theorem zero49 : Try.zeroCells49 = ((List.replicate 32 vw0).flatMap vwC).toArray := by kernel_rfl
theorem set_take {α : Type} {l m : List α} {n : Nat} (hl : l.length = m.length) (h : ∀ i, i < n → l[i]? = m[i]?) (hn : n < m.length) (x : α) (hx : m[n]? = some x) : ∀ i, i < n + 1 → (l.set n x)[i]? = m[i]? := by
  intro i hi
  by_cases e : n = i
  · subst e; rw [List.getElem?_set_self (by omega), hx]
  · rw [List.getElem?_set_ne e]; exact h i (by omega)
set_option maxRecDepth 3000 in
set_option maxHeartbeats 4000000 in
theorem views_c {B gw gf gt : Nat} {fp : Nat → Prop} {w : World} {s : Stt} (h : WW B fp w gw gf gt s) :
    Calls Try.prog 18 #[.pointer (some ⟨gw, 0, none⟩)] w fun e w' => e = .returned (.agg ((viewsF s.u s.hs).flatMap vwC).toArray) ∧ Keep w w' := by
  have HG := Hid.mk (fun n (hn : n < 32) => viewsF_get (u := s.u) (hs := s.hs) hn)
  have HL := Hid.mk (viewsF_length s.u s.hs)
  generalize hV : viewsF s.u s.hs = V at *
  clear hV
  have HH := Hid.mk h
  have k0 := ((Keep.refl w).alloc (.cells Try.zeroCells49 49)).alloc (.cells Try.zeroCells49 49)
  have AB : Arr ((w.alloc (.cells Try.zeroCells49 49)).alloc (.cells Try.zeroCells49 49)) w.heap.size 49 ((List.replicate 32 vw0).flatMap vwC) := by
    rw [zero49]; exact (Arr.new w 49 _).keep ((Keep.refl _).alloc _)
  have AC : Arr ((w.alloc (.cells Try.zeroCells49 49)).alloc (.cells Try.zeroCells49 49)) (w.heap.size + 1) 49 ((List.replicate 32 vw0).flatMap vwC) := by
    have := Arr.new (w.alloc (.cells Try.zeroCells49 49)) 49 ((List.replicate 32 vw0).flatMap vwC)
    rw [show (w.alloc (.cells Try.zeroCells49 49)).heap.size = w.heap.size + 1 by simp] at this
    rw [← zero49] at this
    exact this
  have HK0 := Hid.mk k0
  have HAB := Hid.mk AB
  have HAC := Hid.mk AC
  clear k0 AB AC h
  go_enter Try.func18, Try.ntmps18
  go_wp2_with fail
  generalize (w.alloc (.cells Try.zeroCells49 49)).alloc (.cells Try.zeroCells49 49) = w1 at *
  go_loopg [4] 32 (fun gk iv wr => ∃ (n : Nat) (l : List Vw), n + gk = 32 ∧ iv = .int .i64 n ∧ l.length = 32 ∧ (∀ i, i < n → l[i]? = V[i]?) ∧ Arr wr (w.heap.size + 1) 49 (l.flatMap vwC) ∧ Arr wr w.heap.size 49 ((List.replicate 32 vw0).flatMap vwC) ∧ Keep w wr)
  case atStart => exact ⟨0, List.replicate 32 vw0, by omega, rfl, by simp, fun i hi => by omega, HAC.out, HAB.out, HK0.out⟩
  case round =>
    clear HAC HAB HK0
    obtain ⟨n, l, hk, rfl, hl, hle, A, B0, kw⟩ := hrel
    have HK := Hid.mk hk
    by_cases hlt : n < 32
    · have i1 : (n : Int) < 32 := by omega
      have i0 : (0 : Int) ≤ n := by omega
      have W_ := HH.out.keep kw
      have p1 : wr.cell? ⟨gw, 1, none⟩ = some (.pointer (some ⟨gf, 0, none⟩)) := W_.arr.cell 1
      have LC := vLook_c gf gt s.u (n : Nat) s.hs wr W_.v.fs
      have hx := HG.out n hlt
      generalize lookF s.u s.hs (n : Nat) = X at *
      obtain ⟨x0, x1, x2, x3, x4, x5⟩ := X
      have HX := Hid.mk hx
      have HLE := Hid.mk hle
      have HLn := Hid.mk hl
      have HA := Hid.mk A
      have HB := Hid.mk B0
      unfold vwC at LC
      simp only at LC
      clear hx hle hl A B0 W_ hk
      go_wp2_with fail
      refine LC.mono ?_
      rintro e w2 ⟨rfl, k2⟩
      have A2 := HA.out.keep k2
      have hn : n < l.length := by rw [HLn.out]; exact hlt
      obtain ⟨c0, c1, c2, c3, c4, c5⟩ := A2.vget hn
      have f0 := A2.frozen (n * 6)
      have f1 := A2.frozen (n * 6 + 1)
      have f2 := A2.frozen (n * 6 + 2)
      have f3 := A2.frozen (n * 6 + 3)
      have f4 := A2.frozen (n * 6 + 4)
      have f5 := A2.frozen (n * 6 + 5)
      have HA3 := Hid.mk (A2.view hn ⟨x0, x1, x2, x3, x4, x5⟩)
      have F3 := (((((((Fr.refl (fun q => q = w.heap.size + 1) w2).setCell (p := ⟨w.heap.size + 1, n * 6, none⟩) (Or.inl rfl) (.bool x0)).setCell (p := ⟨w.heap.size + 1, n * 6 + 1, none⟩) (Or.inl rfl) (.int .i64 (x1 : Nat))).setCell (p := ⟨w.heap.size + 1, n * 6 + 2, none⟩) (Or.inl rfl) (.int .i64 x2)).setCell (p := ⟨w.heap.size + 1, n * 6 + 3, none⟩) (Or.inl rfl) (.bool x3)).setCell (p := ⟨w.heap.size + 1, n * 6 + 4, none⟩) (Or.inl rfl) (.int .i64 (x4 : Nat))).setCell (p := ⟨w.heap.size + 1, n * 6 + 5, none⟩) (Or.inl rfl) (str x5))
      have HB3 := Hid.mk (F3.arr (show ¬ (w.heap.size = w.heap.size + 1) by omega) (HB.out.keep k2))
      have hle1 : w.heap.size ≤ w.heap.size + 1 := by omega
      have HK3 := Hid.mk (((((((kw.trans k2).setCell (p := ⟨w.heap.size + 1, n * 6, none⟩) hle1 (.bool x0)).setCell (p := ⟨w.heap.size + 1, n * 6 + 1, none⟩) hle1 (.int .i64 (x1 : Nat))).setCell (p := ⟨w.heap.size + 1, n * 6 + 2, none⟩) hle1 (.int .i64 x2)).setCell (p := ⟨w.heap.size + 1, n * 6 + 3, none⟩) hle1 (.bool x3)).setCell (p := ⟨w.heap.size + 1, n * 6 + 4, none⟩) hle1 (.int .i64 (x4 : Nat))).setCell (p := ⟨w.heap.size + 1, n * 6 + 5, none⟩) hle1 (str x5))
      generalize w.heap.size + 1 = gC at *
      clear A2 F3 LC p1
      go_wp2_with fail
      go_roundg (gk - 1)
      case measure => have := HK.out; omega
      case rel => exact ⟨n + 1, l.set n ⟨x0, x1, x2, x3, x4, x5⟩, by have := HK.out; omega, by go_num, by rw [List.length_set]; exact HLn.out, set_take (by rw [HLn.out, HL.out]) HLE.out (by rw [HL.out]; exact hlt) _ HX.out, HA3.out, HB3.out, HK3.out⟩
    · have i1 : ¬ (n : Int) < 32 := by omega
      have hlV : l = V := by
        apply List.ext_getElem?
        intro i
        by_cases hi : i < 32
        · exact hle i (by omega)
        · rw [List.getElem?_eq_none (by omega), List.getElem?_eq_none (by rw [HL.out]; omega)]
      rw [hlV] at A
      have HA := Hid.mk A
      have HB := Hid.mk B0
      have hsz : ((V.flatMap vwC).toArray).size = 192 := by rw [List.size_toArray, vw_len, HL.out]
      clear hle hl A B0 hk hlV
      go_upto_region 6 with fail
      refine wp_region_lit ?_
      refine wpList_load_row (by rfl) 49 (.tmp 3) (by rfl) (w.heap.size + 1) (by rfl) 49 (V.flatMap vwC).toArray (0, 0) _ HA.out Try.underlying49 rfl (by rw [hsz]; exact s49) ?_
      refine wpList_store_row (by rfl) 49 (.tmp 2) (.tmp 17) (by rfl) w.heap.size (V.flatMap vwC).toArray (by rfl) (by rfl) 49 _ HB.out (by rw [hsz]; exact s49) (by rw [hsz, List.size_toArray, vw_len]; simp) (vw_ones _) ?_
      go_wp2_with fail
      refine bodyPost_ret (v := .agg (V.flatMap vwC).toArray) (results_cell_row (p := 2) (ty := 49) rfl _ _ w.heap.size 49 (V.flatMap vwC).toArray (0, 0) _ rfl (HB.out.row _) Try.underlying49 rfl (by rw [hsz]; exact s49)) rfl ⟨rfl, kw.setRow (Nat.le_refl _) _⟩
end Go.Proofs.Qxb6500767a
