/- octetslaw.utf16OfOctets: it returns true. -/
import Derived.Test.Qxb6500770aU4
namespace Go.Proofs.Qxb6500770a
open Go.RowKit Go.Qm
set_option linter.unusedVariables false
set_option linter.unusedSimpArgs false

def a5 (n : Nat) : List UInt8 := List.replicate n 165
theorem a5_eq (n : Nat) : (List.range n).map (fun _ => (165 : UInt8)) = a5 n := by
  unfold a5
  apply List.ext_getElem?
  intro i
  by_cases hi : i < n <;> simp [hi, List.getElem?_replicate]
theorem a5_length (n : Nat) : (a5 n).length = n := by simp [a5]
theorem a5_split (n m : Nat) : a5 (n + m) = a5 n ++ a5 m := by simp [a5]

set_option maxRecDepth 10000 in
set_option maxHeartbeats 2000000 in
theorem octs_c (v : Value) (l : List UInt8) (w : World) (hs : Bs w v l) (hl : l.length ≤ 100000) :
    Calls Try.prog 14 #[v] w fun e w' => e = .returned (.bool true) ∧ Keep w w' := by
  have hs0 := hs
  obtain ⟨av, cv, rfl, hac, hcm, _⟩ := hs.form
  go_enter Try.func14, Try.ntmps14
  go_wp2_with fail
  refine (utf16LE_c _ l w hs0 (by omega)).mono ?_
  rintro e w1 ⟨h1, h2, k1⟩
  have hsc : (∃ all, sc l = some all ∧ ∃ r, e = .returned (.tuple #[r, .bool true]) ∧ Own w.heap.size 5 w1 r ((u16s all).map cb)) ∨ (sc l = none ∧ ∃ r, e = .returned (.tuple #[r, .bool false])) := by
    cases h : sc l with
    | none => exact Or.inr ⟨rfl, h2 h⟩
    | some all => exact Or.inl ⟨all, rfl, h1 all h⟩
  clear h1 h2
  obtain ⟨N, hN⟩ : ∃ N, 3 + 2 * l.length + 4 = N := ⟨_, rfl⟩
  have hNi : 3 + 2 * (l.length : Int) + 4 = (N : Int) := by omega
  have hmk := run_make1 (P := Try.prog) Try.underlying27 inf5 rfl (N : Int) (N : Int) (by omega) (by omega) (by omega) (by omega)
  rw [Int.toNat_natCast] at hmk
  have hNb : (N : Int) ≤ 200007 := by omega
  have HN := Hid.mk hN
  clear hN
  rcases hsc with ⟨all, hall, r, rfl, ow1⟩ | ⟨hnone, r, rfl⟩
  · obtain ⟨ar, cr, hr, hrc, hrm, _⟩ := ow1.bs.form
    subst hr
    have HALL := Hid.mk hall
    clear hall
    go_wp2_with fail
    go_loopw [6] (fun iv wr => ∃ k : Nat, k ≤ N ∧ iv = .int .i64 k ∧ Win wr w1.heap.size 5 [] ((List.range k).map (fun _ => (165 : UInt8)) ++ (List.replicate N (0 : UInt8)).drop k) [] ∧ Keep w1 wr) (fun iv _ => N - (intOf iv).toNat)
    case atStart =>
      refine ⟨0, by omega, rfl, ?_, (Keep.refl w1).alloc _⟩
      unfold Win
      rw [heap_alloc_new, rep_cb]
      simp
    case round =>
      clear hmk
      obtain ⟨k, hk, rfl, hwin, kw⟩ := hrel
      by_cases hlt : k < N
      · have i1 : (k : Int) < N := by omega
        have hln : k < ((List.range k).map (fun _ => (165 : UInt8)) ++ (List.replicate N (0 : UInt8)).drop k).length := by simp; omega
        have cz := hwin.cell hln (o := k) (by simp)
        generalize ((List.range k).map (fun _ => (165 : UInt8)) ++ (List.replicate N (0 : UInt8)).drop k)[k] = z at cz
        have fz := hwin.frozen k
        have HLN := Hid.mk hln
        clear hln
        go_wp2
        go_roundw
        case rel => exact ⟨k + 1, by omega, by go_num, hwin.range (by simp; exact hlt), kw.setCell (Nat.le_refl _) _⟩
        case measure => simp [intOf]; omega
      · have i1 : ¬ (k : Int) < N := by omega
        have hkn : k = N := by omega
        subst hkn
        rw [List.drop_of_length_le (by simp), List.append_nil, a5_eq] at hwin
        go_wp2_with fail
        -- before := Copy(room)
        refine (copy_c _ (a5 k) wr (hwin.bs (a5_length k).symm (Nat.le_refl _) (by unfold maxLen; omega)) (by rw [a5_length]; omega)).mono ?_
        rintro e w3 ⟨vb, rfl, owb, k3⟩
        have hwin3 := hwin.keep k3
        have kw3 : Keep w1 w3 := kw.trans k3
        have h3k : 3 ≤ k := by have := HN.out; omega
        have hown3 : Own w1.heap.size 5 w3 (.slice (some ⟨w1.heap.size, 0, none⟩) 3 k) ((a5 3).map cb) := by
          have hb : w3.heap[w1.heap.size]? = some (.cells ((a5 3).map cb ++ (a5 (k - 3)).map cb).toArray 5 (0, 0)) := by
            rw [← List.map_append, ← a5_split, show 3 + (k - 3) = k by omega]
            have := hwin3
            unfold Win at this
            simpa using this
          have := Own.of_blk (B := w1.heap.size) (cap := k) (Nat.le_refl _) hb (by rw [List.length_map, List.length_map, a5_length, a5_length]; omega) (by unfold maxLen; omega)
          rwa [List.length_map, a5_length] at this
        have hs1 := hs0.keep k1
        have i3 : (3 : Int) ≤ k := by omega
        go_wp2_with fail
        -- AppendUTF16LE(room[:3], src)
        refine (appendUTF16_some w1 _ _ (a5 3) l all w3 kw3 hs1 hown3 (by omega) (by rw [a5_length]; omega) HALL.out).mono ?_
        rintro e w4 ⟨out, rfl, owo, k4, g4⟩
        have owb4 : Own wr.heap.size 5 w4 vb ((a5 k).map cb) := owb.kept g4 (by
          right
          intro e
          have := (owb.lt w1.heap.size e).1
          have := hwin.lt
          omega)
        go_wp2_with fail
        -- UTF16Len(src)
        refine (utf16Len_c _ l w4 (hs1.keep k4) (by omega)).mono ?_
        rintro e w5 ⟨rfl, rfl⟩
        have hlv : lenV l = (((u16s all).length : Int), 0) := by unfold lenV; rw [HALL.out]
        rw [hlv]
        clear hlv
        obtain ⟨ab, cb', hvb, hbc, hbm, _⟩ := owb4.bs.form
        rw [a5_length] at hvb hbc
        subst hvb
        have hbb := owb4.bs
        have i4 : (3 : Int) ≤ cb' := by omega
        go_wp2_with fail
        -- Join(before[:3], want)
        have hp3 : Bs w5 (.slice ab 3 cb') (a5 3) := by
          have := hbb.part (i := 0) (j := 3) (by omega) h3k ab (fun _ => by cases ab <;> simp [Addr.add])
          simp only [Nat.sub_zero, List.drop_zero] at this
          rwa [show (a5 k).take 3 = a5 3 by rw [show k = 3 + (k - 3) by omega, a5_split, List.take_left' (a5_length 3)]] at this
        have hw4 := ow1.bs.keep k4
        have hul : (u16s all).length ≤ 2 * l.length := (sc_bound _ _ _ HALL.out).2.1
        refine (join_c _ _ (a5 3) (u16s all) w5 hp3 hw4 (by rw [a5_length]; omega)).mono ?_
        rintro e w6 ⟨vj, rfl, owj, k6⟩
        go_wp2_with fail
        refine (same_c _ _ (a5 3 ++ u16s all) (a5 3 ++ u16s all) w6 (owo.keep k6).bs owj.bs).mono ?_
        rintro e w7 ⟨rfl, k7⟩
        rw [decide_eq_true rfl]
        go_wp2
        go_ret
        exact ⟨rfl, ((k1.trans k4).trans k6).trans k7⟩
  · have HNO := Hid.mk hnone
    clear hnone
    go_wp2_with fail
    go_loopw [6] (fun iv wr => ∃ k : Nat, k ≤ N ∧ iv = .int .i64 k ∧ Win wr w1.heap.size 5 [] ((List.range k).map (fun _ => (165 : UInt8)) ++ (List.replicate N (0 : UInt8)).drop k) [] ∧ Keep w1 wr) (fun iv _ => N - (intOf iv).toNat)
    case atStart =>
      refine ⟨0, by omega, rfl, ?_, (Keep.refl w1).alloc _⟩
      unfold Win
      rw [heap_alloc_new, rep_cb]
      simp
    case round =>
      clear hmk
      obtain ⟨k, hk, rfl, hwin, kw⟩ := hrel
      by_cases hlt : k < N
      · have i1 : (k : Int) < N := by omega
        have hln : k < ((List.range k).map (fun _ => (165 : UInt8)) ++ (List.replicate N (0 : UInt8)).drop k).length := by simp; omega
        have cz := hwin.cell hln (o := k) (by simp)
        generalize ((List.range k).map (fun _ => (165 : UInt8)) ++ (List.replicate N (0 : UInt8)).drop k)[k] = z at cz
        have fz := hwin.frozen k
        have HLN := Hid.mk hln
        clear hln
        go_wp2
        go_roundw
        case rel => exact ⟨k + 1, by omega, by go_num, hwin.range (by simp; exact hlt), kw.setCell (Nat.le_refl _) _⟩
        case measure => simp [intOf]; omega
      · have i1 : ¬ (k : Int) < N := by omega
        have hkn : k = N := by omega
        subst hkn
        rw [List.drop_of_length_le (by simp), List.append_nil, a5_eq] at hwin
        go_wp2_with fail
        -- before := Copy(room)
        refine (copy_c _ (a5 k) wr (hwin.bs (a5_length k).symm (Nat.le_refl _) (by unfold maxLen; omega)) (by rw [a5_length]; omega)).mono ?_
        rintro e w3 ⟨vb, rfl, owb, k3⟩
        have hwin3 := hwin.keep k3
        have kw3 : Keep w1 w3 := kw.trans k3
        have h3k : 3 ≤ k := by have := HN.out; omega
        have hown3 : Own w1.heap.size 5 w3 (.slice (some ⟨w1.heap.size, 0, none⟩) 3 k) ((a5 3).map cb) := by
          have hb : w3.heap[w1.heap.size]? = some (.cells ((a5 3).map cb ++ (a5 (k - 3)).map cb).toArray 5 (0, 0)) := by
            rw [← List.map_append, ← a5_split, show 3 + (k - 3) = k by omega]
            have := hwin3
            unfold Win at this
            simpa using this
          have := Own.of_blk (B := w1.heap.size) (cap := k) (Nat.le_refl _) hb (by rw [List.length_map, List.length_map, a5_length, a5_length]; omega) (by unfold maxLen; omega)
          rwa [List.length_map, a5_length] at this
        have hs1 := hs0.keep k1
        have i3 : (3 : Int) ≤ k := by omega
        go_wp2_with fail
        -- AppendUTF16LE(room[:3], src)
        refine (appendUTF16_none w1 _ _ (a5 3) l w3 kw3 hs1 hown3 (by omega) HNO.out).mono ?_
        rintro e w4 ⟨rfl, rfl⟩
        go_wp2_with fail
        -- UTF16Len(src)
        refine (utf16Len_c _ l w4 (hs1.keep kw3) (by omega)).mono ?_
        rintro e w5 ⟨rfl, rfl⟩
        have hlv : lenV l = (0, 3) := by unfold lenV; rw [HNO.out]
        rw [hlv]
        clear hlv
        go_wp2_with fail
        -- Same(room, before)
        refine (same_c _ _ (a5 k) (a5 k) _ (hwin3.bs (a5_length k).symm (Nat.le_refl _) (by unfold maxLen; omega)) owb.bs).mono ?_
        rintro e w6 ⟨rfl, k6⟩
        rw [decide_eq_true rfl]
        go_wp2
        go_ret
        exact ⟨rfl, (k1.trans kw3).trans k6⟩
end Go.Proofs.Qxb6500770a
