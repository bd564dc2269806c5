/- octetsm.Same, Copy, Join: their contracts. -/
import Derived.Test.Qxb6500771aGreatRows
import Derived.Test.Qxb6500771aGreatMem
namespace Go.Proofs.Qxb6500771aGreat
open Go.RowKit Go.Qm
set_option linter.unusedVariables false
set_option linter.unusedSimpArgs false

theorem inf5 : (Tryz.prog.info? 5).map (fun i => (i.zero, i.size, i.bytes)) = some (some (.int .u8 0), 1, 1) := by kernel_rfl
theorem siz5 : (Tryz.prog.info? 5).map (·.size) = some 1 := by kernel_rfl

theorem take_eq_succ {la lb : List UInt8} {k : Nat} (h1 : k < la.length) (h2 : k < lb.length) (ht : la.take k = lb.take k) (hk : la[k] = lb[k]) : la.take (k + 1) = lb.take (k + 1) := by
  rw [List.take_succ_eq_append_getElem h1, List.take_succ_eq_append_getElem h2, ht, hk]
theorem u8_bne {a b : UInt8} (h : ((a.toNat : Int) != (b.toNat : Int)) = false) : a = b := by
  have : (a.toNat : Int) = b.toNat := by simpa using h
  exact UInt8.toNat_inj.1 (by omega)
theorem ne_of_bne {la lb : List UInt8} {k : Nat} (h1 : k < la.length) (h2 : k < lb.length) (h : ((la[k].toNat : Int) != (lb[k].toNat : Int)) = true) : la ≠ lb := by
  intro e
  subst e
  simp at h

set_option maxHeartbeats 400000 in
theorem same_c (v v' : Value) (la lb : List UInt8) (w : World) (ha : Bs w v la) (hb : Bs w v' lb) :
    Calls Tryz.prog 28 #[v, v'] w fun e w' => e = .returned (.bool (decide (la = lb))) ∧ Keep w w' := by
  obtain ⟨a, c, rfl, hac, hcm, hca⟩ := ha.form
  obtain ⟨a', c', rfl, hac', hcm', hcb⟩ := hb.form
  unfold maxLen at hcm hcm'
  by_cases hne : la.length = lb.length
  · go_enter Tryz.func28, Tryz.ntmps28
    go_wp2
    go_loopw [5] (fun i wr => ∃ k : Nat, k ≤ la.length ∧ i = .int .i64 k ∧ la.take k = lb.take k ∧ Keep w wr) (fun i _ => la.length - (intOf i).toNat)
    case atStart => exact ⟨0, by omega, rfl, by simp, Keep.refl _⟩
    case round =>
      obtain ⟨k, hk, rfl, ht, kw⟩ := hrel
      by_cases hlt : k < la.length
      · obtain ⟨b, o, rfl, h1⟩ := hca k hlt
        obtain ⟨b', o', rfl, h2⟩ := hcb k (by omega)
        replace h1 := kw.cell h1
        replace h2 := kw.cell h2
        have hlt' : (k : Int) < la.length := by omega
        have hg : (0 : Int) ≤ k := by omega
        go_wp2
        go_quiet (fail)
        go_wp2
        · go_ret
          exact ⟨ret_bool (decide_eq_false (ne_of_bne hlt (by omega) (by assumption))).symm, kw.drewN _⟩
        · go_roundw
          case rel => exact ⟨k + 1, by omega, by go_num, take_eq_succ _ _ ht (u8_bne (by assumption)), kw.drewN _⟩
          case measure => simp [intOf]; omega
      · go_wp2
        go_ret
        exact ⟨ret_bool (decide_eq_true (by rwa [List.take_of_length_le (by omega), List.take_of_length_le (by omega)] at ht)).symm, kw⟩
  · have hne' : ((la.length : Int) != (lb.length : Int)) = true := by simp; omega
    go_enter Tryz.func28, Tryz.ntmps28
    go_wp2
    go_ret
    exact ⟨ret_bool (decide_eq_false (fun e => hne (by rw [e]))).symm, Keep.refl _⟩

theorem map_take_succ {l : List UInt8} {k : Nat} (h : k < l.length) : (l.take k).map cb ++ [Value.int .u8 (l[k]).toNat] = (l.take (k + 1)).map cb := by
  rw [List.take_succ_eq_append_getElem h, List.map_append]; rfl

set_option maxHeartbeats 400000 in
theorem copy_c (v : Value) (l : List UInt8) (w : World) (h : Bs w v l) (hl : l.length ≤ 70368744177664) :
    Calls Tryz.prog 88 #[v] w fun e w' => ∃ v', e = .returned v' ∧ Own w.heap.size 5 w' v' (l.map cb) ∧ Keep w w' := by
  obtain ⟨a, c, rfl, hac, hcm, hca⟩ := h.form
  unfold maxLen at hcm
  go_enter Tryz.func88, Tryz.ntmps88
  go_wp2
  go_loopw [3, 4] (fun ov i wr => ∃ k : Nat, k ≤ l.length ∧ i = .int .i64 k ∧ Own w.heap.size 5 wr ov ((l.take k).map cb) ∧ Keep w wr) (fun _ i _ => l.length - (intOf i).toNat)
  case atStart => exact ⟨0, by omega, rfl, Own.lit [] (Nat.le_refl _) (by simp), (Keep.refl _).alloc _⟩
  case round =>
    obtain ⟨k, hk, rfl, hown, kw⟩ := hrel
    by_cases hlt : k < l.length
    · obtain ⟨b, o, rfl, h1⟩ := hca k hlt
      replace h1 := kw.cell h1
      have hlt' : (k : Int) < l.length := by omega
      have hg : (0 : Int) ≤ k := by omega
      have hkl : ((l.take k).map cb).length = k := by simp; omega
      have HK := Hid.mk hkl
      clear hkl
      go_wp2_with (at_builtin; refine wpList_app (by rfl) _ _ _ (by rfl) Tryz.underlying26 inf5 rfl w.heap.size (hown.alloc _) (Sl.one _) (by simp [Value.oneCell']) (by rfl) (by rfl) (by rw [HK.out]; simp [maxLen]; omega) (by rw [HK.out]; simp; omega) (by have := kw.size; simp; omega) ?_; intro v' w' hown' hgr hob)
      go_roundw
      case rel => exact ⟨k + 1, by omega, by go_num, by rw [map_take_succ] at hown'; exact hown', (kw.alloc _).grown hgr (fun q hq => (hown.lt q hq).1)⟩
      case measure => simp [intOf]; omega
    · have hlt' : ¬ (k : Int) < l.length := by omega
      go_wp2
      go_ret
      rw [List.take_of_length_le (by omega)] at hown
      exact ⟨_, rfl, by simpa using hown, kw⟩

set_option maxHeartbeats 400000 in
theorem join_c (v v' : Value) (la lb : List UInt8) (w : World) (ha : Bs w v la) (hb : Bs w v' lb) (hl : la.length + lb.length ≤ 70368744177664) :
    Calls Tryz.prog 78 #[v, v'] w fun e w' => ∃ r, e = .returned r ∧ Own w.heap.size 5 w' r ((la ++ lb).map cb) ∧ Keep w w' := by
  obtain ⟨a, c, rfl, hac, hcm, hca⟩ := hb.form
  unfold maxLen at hcm
  go_enter Tryz.func78, Tryz.ntmps78
  go_wp2_with fail
  refine (copy_c v la w ha (by omega)).mono ?_
  rintro e w1 ⟨ov, rfl, ow, k1⟩
  go_wp2_with fail
  go_loopw [5, 6] (fun ov i wr => ∃ k : Nat, k ≤ lb.length ∧ i = .int .i64 k ∧ Own w.heap.size 5 wr ov ((la ++ lb.take k).map cb) ∧ Keep w wr) (fun _ i _ => lb.length - (intOf i).toNat)
  case atStart => exact ⟨0, by omega, rfl, by simpa using ow, k1⟩
  case round =>
    clear ow
    obtain ⟨k, hk, rfl, hown, kw⟩ := hrel
    by_cases hlt : k < lb.length
    · obtain ⟨b, o, rfl, h1⟩ := hca k hlt
      replace h1 := kw.cell h1
      have hlt' : (k : Int) < lb.length := by omega
      have hg : (0 : Int) ≤ k := by omega
      have hkl : ((la ++ lb.take k).map cb).length = la.length + k := by simp; omega
      have HK := Hid.mk hkl
      clear hkl
      go_wp2_with (at_builtin; refine wpList_app (by rfl) _ _ _ (by rfl) Tryz.underlying26 inf5 rfl w.heap.size (hown.alloc _) (Sl.one _) (by simp [Value.oneCell']) (by rfl) (by rfl) (by rw [HK.out]; simp [maxLen]; omega) (by rw [HK.out]; simp; omega) (by have := kw.size; simp; omega) ?_; intro v' w' hown' hgr hob)
      go_roundw
      case rel =>
        refine ⟨k + 1, by omega, by go_num, ?_, (kw.alloc _).grown hgr (fun q hq => (hown.lt q hq).1)⟩
        rw [List.map_append, List.append_assoc, map_take_succ, ← List.map_append] at hown'
        exact hown'
      case measure => simp [intOf]; omega
    · have hlt' : ¬ (k : Int) < lb.length := by omega
      go_wp2
      go_ret
      rw [List.take_of_length_le (by omega)] at hown
      exact ⟨_, rfl, by simpa using hown, kw⟩
end Go.Proofs.Qxb6500771aGreat
