/- digestm.wordsLE. -/
import Derived.Test.Qxb6500769aArr
namespace Go.Proofs.Qxb6500769a
open Go.RowKit Go.Qm
set_option linter.unusedVariables false
set_option linter.unusedSimpArgs false

theorem z113 : (Try.prog.info? 113).map (·.zero) = some (some (.agg (List.replicate 16 (Value.int .u32 0)).toArray)) := by kernel_rfl
theorem s113 : (Try.prog.info? 113).map (·.size) = some 16 := by kernel_rfl

/-- The i-th word of a block, its least octet first. -/
def wle (l : List UInt8) (i : Nat) : Int := IntKind.u32.wrap (num ((l.drop (4 * i)).take 4).reverse : Nat)
def wles (l : List UInt8) (k : Nat) : List Value := (List.range k).map (fun i => u32v (wle l i)) ++ List.replicate (16 - k) (.int .u32 0)
theorem wles_length (l : List UInt8) (k : Nat) (h : k ≤ 16) : (wles l k).length = 16 := by simp [wles]; omega
theorem wles_set (l : List UInt8) (k : Nat) (h : k < 16) : (wles l k).set k (u32v (wle l k)) = wles l (k + 1) := by
  unfold wles
  rw [List.set_append_right _ _ (by simp)]
  simp only [List.length_map, List.length_range, Nat.sub_self]
  rw [show 16 - k = (16 - (k + 1)) + 1 by omega, List.replicate_succ, List.set_cons_zero, List.range_succ, List.map_append, List.append_assoc]
  rfl
set_option maxHeartbeats 1000000 in
theorem wordsLE_c (v : Value) (l : List UInt8) (w : World) (h : Bs w v l) (hl : l.length = 64) : Calls Try.prog 103 #[v] w fun e w' => e = .returned (.agg (wles l 16).toArray) ∧ Keep w w' := by
  have hb := h
  obtain ⟨a, c, rfl, hac, hcm, hca⟩ := h.form
  clear hca h
  rw [hl] at hac hb ⊢
  unfold maxLen at hcm
  go_enter Try.func103, Try.ntmps103
  go_wp2_with (refine wpList_alloc_z (by rfl) 113 (by rfl) (List.replicate 16 (.int .u32 0)) z113 ?_)
  have A0 := Arr.new w 113 (List.replicate 16 (.int .u32 0))
  have A1 := Arr.new (w.alloc (.cells (List.replicate 16 (Value.int .u32 0)).toArray 113)) 113 (List.replicate 16 (.int .u32 0))
  have K1 := ((Keep.refl w).alloc (.cells (List.replicate 16 (Value.int .u32 0)).toArray 113)).alloc (.cells (List.replicate 16 (Value.int .u32 0)).toArray 113)
  go_loopw [4] (fun iv wr => ∃ k : Nat, k ≤ 16 ∧ iv = .int .i64 k ∧ Arr wr w.heap.size 113 (List.replicate 16 (.int .u32 0)) ∧ Arr wr (w.heap.size + 1) 113 (wles l k) ∧ Keep w wr) (fun i _ => 16 - (intOf i).toNat)
  case atStart => exact ⟨0, by omega, rfl, A0.keep ((Keep.refl _).alloc _), by simpa [wles] using A1, K1⟩
  case round =>
    obtain ⟨k, hk, rfl, hA, hB, kw⟩ := hrel
    clear A0 A1 K1
    by_cases hlt : k < 16
    · obtain ⟨q, hq⟩ : ∃ q, q = 4 * k := ⟨_, rfl⟩
      have hq4 : IntKind.i64.wrap (4 * (k : Int)) = (q : Int) := by rw [IntKind.wrap_i64] <;> omega
      have hq5 : IntKind.i64.wrap ((q : Int) + 4) = (q : Int) + 4 := by rw [IntKind.wrap_i64]; omega
      have i0 : (k : Int) < 16 := by omega
      have i1 : (q : Int) + 4 ≤ 64 := by omega
      have i2 : (q : Int) ≤ c := by omega
      have i3 : (q : Int) + 4 ≤ c := by omega
      have i4 : ¬ c = q := by omega
      have hpart := (hb.keep kw).part (i := q) (j := q + 4) (by omega) (by omega) (a.map (·.add q)) (fun _ => rfl)
      rw [show q + 4 - q = 4 by omega] at hpart
      have hw : wle l k = IntKind.u32.wrap (num ((l.drop q).take 4).reverse : Nat) := by rw [hq]; rfl
      have hn4 : ((l.drop q).take 4).length = 4 := by simp; omega
      have HQ := Hid.mk hq
      have HW := Hid.mk hw
      clear hq hw
      go_wp2_with fail
      refine (flip_c _ _ _ hpart (by omega)).mono ?_
      rintro e w1 ⟨v1, rfl, o1, k1⟩
      go_wp2_with fail
      refine (number_c _ _ _ o1.bs (by rw [List.length_reverse]; omega)).mono ?_
      rintro e w2 ⟨rfl, k2⟩
      have hB2 := hB.keep (k1.trans k2)
      have hA2 := hA.keep (k1.trans k2)
      have kw2 := kw.trans (k1.trans k2)
      have hc := hB2.cell k
      rw [List.getElem?_eq_getElem (by rw [wles_length l k hk]; exact hlt)] at hc
      have hf := hB2.frozen k
      generalize num ((l.drop q).take 4).reverse = nn at *
      go_wp2_with fail
      go_roundw
      case rel =>
        refine ⟨k + 1, by omega, by go_num, ?_, ?_, kw2.setCell (by simp) _⟩
        · exact hA2.kept (grown_set (grown_refl _ _) k _) (by omega)
        · rw [← wles_set l k hlt, HW.out]; exact hB2.set k _
      case measure => simp [intOf]; omega
    · have hlt' : ¬ (k : Int) < 16 := by omega
      have hk16 : k = 16 := by omega
      subst hk16
      have hl16 := wles_length l 16 (by omega)
      go_wp2_with (first
        | (refine wpList_load_row (by rfl) 113 (.tmp 3) (by rfl) (w.heap.size + 1) (by rfl) 113 (wles l 16).toArray (0, 0) _ hB Try.underlying113 rfl (by rw [List.size_toArray, hl16]; exact s113) ?_)
        | (refine wpList_store_row (by rfl) 113 (.tmp 2) (.tmp 21) (by rfl) w.heap.size (wles l 16).toArray (by rfl) (by rfl) 113 _ hA (by rw [List.size_toArray, hl16]; exact s113) (by simp [hl16]) (by simp [wles, u32v, Value.oneCell']) ?_))
      refine bodyPost_ret (v := .agg (wles l 16).toArray) ?_ rfl ⟨rfl, kw.setRow (Nat.le_refl _) _⟩
      exact results_cell_row (p := 2) (ty := 113) rfl _ _ w.heap.size 113 (wles l 16).toArray (0, 0) _ rfl (hA.row _) Try.underlying113 rfl (by rw [List.size_toArray, hl16]; exact s113)
end Go.Proofs.Qxb6500769a
