import Derived.Test.Qxb6500770aRows
import Derived.Test.Qxb6500770aMem
namespace Go.Proofs.Qxb6500770a
open Go.RowKit Go.Qm
set_option linter.unusedVariables false
set_option linter.unusedSimpArgs false

theorem inf5 : (Try.prog.info? 5).map (fun i => (i.zero, i.size, i.bytes)) = some (some (.int .u8 0), 1, 1) := by kernel_rfl
theorem siz5 : (Try.prog.info? 5).map (·.size) = some 1 := by kernel_rfl

set_option maxHeartbeats 400000 in
theorem clone_c (v : Value) (l : List UInt8) (w : World) (h : Bs w v l) (hl : l.length ≤ 281474976710656) :
    Calls Try.prog 7 #[v] w fun e w' => ∃ v', e = .returned v' ∧ Own w.heap.size 5 w' v' (l.map cb) ∧ Keep w w' := by
  obtain ⟨a, c, rfl, hac, hcm, hca⟩ := h.form
  have hmk := run_make1 (P := Try.prog) Try.underlying27 inf5 rfl l.length l.length (by omega) (by omega) (by omega) (by omega)
  have hcp := run_copy1 (P := Try.prog) (dT := 27) (sT := 27) (ty := 3) Try.underlying27 siz5 (dLen := l.length) (dCap := l.length) (o := 0) (heap_alloc_new w (.cells (rep l.length (.int .u8 0)) 5)) (rep_cb _) (Sl.keep h ((Keep.refl w).alloc _)) (cb_one l) (by simp)
  simp only [Int.toNat_natCast] at hmk
  clear hca
  go_enter Try.func7, Try.ntmps7
  go_wp2
  go_ret
  refine ⟨_, rfl, ?_, ((Keep.refl w).alloc _).setRow (Nat.le_refl _) _⟩
  have hb := setRow_blk (w := w.alloc (.cells (rep l.length (.int .u8 0)) 5)) (g := w.heap.size) (e := 5) (ys := (List.replicate l.length (0 : UInt8)).map cb) (by rw [heap_alloc_new, rep_cb]) (l.map cb ++ [])
  have := Own.of_blk (B := w.heap.size) (Nat.le_refl _) hb (by simp; rfl) (by unfold maxLen at *; omega)
  have e1 : List.take l.length (l.map cb) = l.map cb := List.take_of_length_le (by simp)
  simpa [e1] using this

/-- After k exchanges. -/
def Swapped (l m : List UInt8) (k : Nat) : Prop := m.length = l.length ∧ ∀ i, i < l.length → m[i]? = if i < k ∨ l.length - k ≤ i then l[l.length - 1 - i]? else l[i]?

theorem Swapped.start (l : List UInt8) : Swapped l l 0 := ⟨rfl, fun i hi => by rw [if_neg (by omega)]⟩
theorem Swapped.next {l m : List UInt8} {k : Nat} (h : Swapped l m k) (hk : 2 * k + 1 < l.length) (h1 : k < m.length) (h2 : l.length - 1 - k < m.length) :
    Swapped l ((m.set k m[l.length - 1 - k]).set (l.length - 1 - k) m[k]) (k + 1) := by
  obtain ⟨hl, hm⟩ := h
  refine ⟨by simp [hl], fun i hi => ?_⟩
  have e1 := hm k (by omega)
  have e2 := hm (l.length - 1 - k) (by omega)
  rw [if_neg (by omega), List.getElem?_eq_getElem h1] at e1
  rw [if_neg (by omega), List.getElem?_eq_getElem h2] at e2
  rw [List.getElem?_set, List.getElem?_set]
  by_cases c1 : l.length - 1 - k = i
  · subst c1
    rw [if_pos rfl, if_pos (by simpa using h2), if_pos (by omega), e1]
    congr 1
    omega
  · by_cases c2 : k = i
    · subst c2
      rw [if_neg (by omega), if_pos rfl, if_pos (by simpa using h1), if_pos (by omega), e2]
    · rw [if_neg c1, if_neg c2, hm i hi]
      by_cases c3 : i < k ∨ l.length - k ≤ i
      · rw [if_pos c3, if_pos (by omega)]
      · rw [if_neg c3, if_neg (by omega)]
theorem Swapped.done {l m : List UInt8} {k : Nat} (h : Swapped l m k) (hk : ¬ 2 * k + 1 < l.length) : m = l.reverse := by
  obtain ⟨hl, hm⟩ := h
  apply List.ext_getElem?
  intro i
  by_cases hi : i < l.length
  · rw [hm i hi, List.getElem?_reverse hi]
    split
    · rfl
    · congr 1
      omega
  · rw [List.getElem?_eq_none (by omega), List.getElem?_eq_none (by simp; omega)]

set_option maxHeartbeats 400000 in
theorem reverse_c (g o n c : Nat) (e0 : TypeId) (pre post : List Value) (l : List UInt8) (w : World) (hn : n = l.length) (ho : o = pre.length) (hc : n ≤ c) (hm : c ≤ maxLen) (hg : Win w g e0 pre l post) :
    Calls Try.prog 25 #[.slice (some ⟨g, o, none⟩) n c] w fun e w' => e = .returned (.tuple #[]) ∧ Win w' g e0 pre l.reverse post ∧ w.grownBy w' (some g) := by
  unfold maxLen at hm
  subst hn
  have HP : Hid (o = pre.length) := ho
  clear ho
  go_enter Try.func25, Try.ntmps25
  go_wp2
  go_loopw [2, 3] (fun i j wr => ∃ (k : Nat) (m : List UInt8), 2 * k ≤ l.length ∧ i = .int .i64 k ∧ j = .int .i64 (l.length - 1 - k) ∧ Swapped l m k ∧
     Win wr g e0 pre m post ∧ w.grownBy wr (some g)) (fun i _ _ => l.length - (intOf i).toNat)
  case atStart => exact ⟨0, l, by omega, rfl, by simp, Swapped.start l, hg, grown_refl _ _⟩
  case round =>
    obtain ⟨k, m, hk, rfl, rfl, hsw, hb, hgr⟩ := hrel
    have hml := hsw.1
    by_cases hlt : 2 * k + 1 < l.length
    · have h1 : (k : Int) < l.length - 1 - k := by omega
      have h2 : (0 : Int) ≤ k := by omega
      have h3 : (k : Int) < l.length := by omega
      have h4 : (0 : Int) ≤ l.length - 1 - k := by omega
      have h5 : (l.length : Int) - 1 - k < l.length := by omega
      have hk1 : k < m.length := by omega
      have hk2 : l.length - 1 - k < m.length := by omega
      have c1 := hb.cell hk1 (o := o + k) (by rw [HP.out])
      have c2 := hb.cell hk2 (o := o + (l.length - 1 - k)) (by rw [HP.out])
      have f1 := hb.frozen (o + k)
      have f2 := hb.frozen (o + (l.length - 1 - k))
      go_wp2
      go_region
      go_wp2
      go_roundw
      case rel => 
        refine ⟨k + 1, _, by omega, by go_num, by go_num, hsw.next hlt hk1 hk2, ?_, grown_drew (grown_set (grown_set hgr _ _) _ _)⟩
        exact ((hb.set hk1 _ (by rw [HP.out])).set (by simpa using hk2) _ (by rw [HP.out])).drew
      case measure => simp [intOf]; omega
    · have h1 : ¬ (k : Int) < l.length - 1 - k := by omega
      go_wp2
      go_end0
      exact ⟨rfl, by rw [← hsw.done hlt]; exact hb, hgr⟩
end Go.Proofs.Qxb6500770a
