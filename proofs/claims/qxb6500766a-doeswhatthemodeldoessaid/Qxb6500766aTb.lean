/- foldindex: sizes, a new table, crowded, before. -/
import Derived.Test.Qxb6500766aTa
namespace Go.Proofs.Qxb6500766a
open Go.RowKit Go.Qm
set_option linter.unusedVariables false
set_option linter.unusedSimpArgs false
attribute [local go_sem ↓] Go.wp_at_zero Go.wp_at_succ
def SzP (n z m : Nat) : Prop := 3 ≤ m ∧ m ≤ 20 ∧ 2 * n ≤ z ∧ z = 2 ^ m
set_option maxHeartbeats 1000000 in
theorem sizeFor_c (n : Nat) (w : World) (hn : n ≤ 100000) : Calls Try.prog 68 #[.int .i64 n] w fun e w' => ∃ m z : Nat, SzP n z m ∧ e = .returned (.int .i64 (z : Int)) ∧ w' = w := by
  go_enter Try.func68, Try.ntmps68
  go_wp2_with fail
  go_loopg [3] 20 (fun gk sv wr => ∃ m z : Nat, 3 ≤ m ∧ m + gk = 23 ∧ z = 2 ^ m ∧ (m = 3 ∨ 2 ^ (m - 1) < 2 * n) ∧ sv = .int .i64 z ∧ wr = w)
  case atStart => exact ⟨3, 8, by omega, by omega, rfl, Or.inl rfl, rfl, rfl⟩
  case round => as_aux_lemma =>
    obtain ⟨m, z, hm, hmg, hz, hlo, rfl, rfl⟩ := hrel
    have h18 : m ≤ 19 := by
      rcases hlo with h | h
      · omega
      · apply Classical.byContradiction
        intro hc
        have : 2 ^ 19 ≤ 2 ^ (m - 1) := Nat.pow_le_pow_right (by omega) (by omega)
        omega
    have hz19 : z ≤ 2 ^ 19 := by rw [hz]; exact Nat.pow_le_pow_right (by omega) h18
    have HZ := Hid.mk hz
    clear hz hlo
    by_cases hlt : z < 2 * n
    · have i1 : (z : Int) < 2 * (n : Int) := by omega
      go_wp2_with fail
      go_roundg (gk - 1)
      case measure => omega
      case rel => exact ⟨m + 1, z * 2, by omega, by omega, by rw [HZ.out, Nat.pow_succ], Or.inr (by rw [Nat.add_sub_cancel, ← HZ.out]; exact hlt), by go_num, rfl⟩
    · have i1 : ¬ (z : Int) < 2 * (n : Int) := by omega
      go_wp2_with fail
      go_ret
      exact ⟨m, z, ⟨hm, by omega, by omega, HZ.out⟩, rfl, rfl⟩
theorem inf88 : (Try.prog.info? 88).map (fun i => (i.zero, i.size, i.bytes)) = some (some (.agg (slotC free).toArray), 4, 48) := by kernel_rfl
theorem inf68 : (Try.prog.info? 68).map (·.size) = some 3 := by kernel_rfl
theorem made_flat (L : List Value) (s n : Nat) (hL : L.length = s) (hs : 0 < s) : madeCells L.toArray (n * s) = ((List.replicate n ()).flatMap fun _ => L).toArray := by
  apply Array.ext'
  simp only [madeCells]
  apply List.ext_getElem?
  intro j
  rw [Array.toList_map, Array.toList_range, List.getElem?_map]
  by_cases hj : j < n * s
  · rw [List.getElem?_range hj]
    have e : j = (j / s) * s + j % s := (Nat.div_add_mod' j s).symm
    have hd : j / s < n := Nat.div_lt_of_lt_mul (by rw [Nat.mul_comm]; exact hj)
    have hm : j % s < s := Nat.mod_lt _ hs
    rw [show ((List.replicate n ()).flatMap fun _ => L).toArray.toList[j]? = ((List.replicate n ()).flatMap fun _ => L)[(j / s) * s + j % s]? by rw [← e], flat_get (fun _ => L) s (fun _ => hL) (List.replicate n ()) (j / s) (j % s) (by simpa using hd) hm]
    simp [hL, hm]
  · rw [List.getElem?_eq_none (by simpa using hj), List.getElem?_eq_none (by
      show ((List.replicate n ()).flatMap fun _ => L).length ≤ j
      rw [flat_length (fun _ => L) s (fun _ => hL)]; simp; omega)]
    rfl
theorem flat_const (n : Nat) : ((List.replicate n ()).flatMap fun _ => slotC free) = (List.replicate n free).flatMap slotC := by
  induction n with
  | zero => rfl
  | succ n ih => simp only [List.replicate_succ, List.flatMap_cons, ih]
theorem run_makeSlots (n : Nat) (hn : n ≤ 2 ^ 20) (w : World) : (Instr.makeSlice 66 (.int .i64 (n : Int)) (.int .i64 (n : Int))).run Try.prog w = .ok (.slice (some ⟨w.heap.size, 0, none⟩) n n) (w.alloc (.cells ((List.replicate n free).flatMap slotC).toArray 88)) := by
  obtain ⟨i, hi', hz', hs, hby⟩ := info_parts inf88
  rw [run_make w 66 88 i _ Try.underlying66 hi' hz' .i64 .i64 n n (by omega) (by omega) (by rw [hby]; omega) (by omega), hs]
  have e : madeCells (Value.agg (slotC free).toArray).cells ((n : Int).toNat * 4) = ((List.replicate n free).flatMap slotC).toArray := by
    rw [show (Value.agg (slotC free).toArray).cells = (slotC free).toArray from rfl, Int.toNat_natCast, made_flat (slotC free) 4 n rfl (by omega), flat_const]
  rw [e, Int.toNat_natCast]
set_option maxHeartbeats 1000000 in
theorem newTable_c (n : Nat) (w : World) (hn : n ≤ 100000) : Calls Try.prog 67 #[.int .i64 n] w fun e w' => ∃ m z b : Nat, SzP n z m ∧ e = .returned (.agg #[.slice (some ⟨b, 0, none⟩) z z, .int .i64 0, .int .i64 0]) ∧ w.heap.size ≤ b ∧ Slots w' b (List.replicate z free) ∧ Keep w w' := by
  have A := Arr.new w 68 [.slice none 0 0, .int .i64 0, .int .i64 0]
  have K0 := (Keep.refl w).alloc (.cells #[.slice none 0 0, .int .i64 0, .int .i64 0] 68)
  go_enter Try.func67, Try.ntmps67
  go_wp2_with fail
  refine (sizeFor_c n _ hn).mono ?_
  rintro e w1 ⟨m, z, hsz, rfl, rfl⟩
  have hz : z ≤ 2 ^ 20 := by rw [hsz.2.2.2]; exact Nat.pow_le_pow_right (by omega) hsz.2.1
  have MK := run_makeSlots z hz (w.alloc (.cells #[.slice none 0 0, .int .i64 0, .int .i64 0] 68))
  have A2 := A.keep ((Keep.refl _).alloc (.cells ((List.replicate z free).flatMap slotC).toArray 88))
  have S2 := Arr.new (w.alloc (.cells #[.slice none 0 0, .int .i64 0, .int .i64 0] 68)) 88 ((List.replicate z free).flatMap slotC)
  have K2 := K0.alloc (.cells ((List.replicate z free).flatMap slotC).toArray 88)
  have SG : Hid (∀ W, Arr W (w.heap.size + 1) 88 ((List.replicate z free).flatMap slotC) → Slots W (w.heap.size + 1) (List.replicate z free)) := Hid.mk (fun W h => h)
  generalize (List.replicate z free).flatMap slotC = L at *
  have r0 := A2.cell 0
  have r1 := A2.cell 1
  have r2 := A2.cell 2
  have f0 := A2.frozen 0
  have f1 := A2.frozen 1
  have f2 := A2.frozen 2
  simp only [List.getElem?_cons_zero, List.getElem?_cons_succ] at r0 r1 r2
  go_wp2_with fail
  have X0 := Arr.new w 68 [.slice (some ⟨w.heap.size + 1, 0, none⟩) z z, .int .i64 0, .int .i64 0]
  have X := X0.keep ((Keep.refl _).alloc (.cells L.toArray 88))
  have SF := Arr.new (w.alloc (.cells #[.slice (some ⟨w.heap.size + 1, 0, none⟩) z z, .int .i64 0, .int .i64 0] 68)) 88 L
  rw [show (w.alloc (.cells #[.slice (some ⟨w.heap.size + 1, 0, none⟩) z z, .int .i64 0, .int .i64 0] 68)).heap.size = w.heap.size + 1 by simp] at SF
  have q0 := X.cell 0
  have q1 := X.cell 1
  have q2 := X.cell 2
  simp only [List.getElem?_cons_zero, List.getElem?_cons_succ] at q0 q1 q2
  refine bodyPost_ret (v := .agg #[.slice (some ⟨w.heap.size + 1, 0, none⟩) z z, .int .i64 0, .int .i64 0]) (by simp [results, Try.results67, go_sem, q0, q1, q2]) rfl ⟨m, z, _, hsz, rfl, by omega, SG.out _ SF, ((Keep.refl w).alloc _).alloc _⟩
def entC (e : Ent) : List Value := [.int .i64 e.layer, str e.raw, .int .i64 e.kind]
def befB (layer : Int) (raw : List UInt8) (e : Ent) : Bool := if layer = e.layer then lessB raw e.raw else decide (layer < e.layer)
theorem before_c (layer : Int) (raw : List UInt8) (e : Ent) (w : World) (h1 : raw.length ≤ 1000000) (h2 : e.raw.length ≤ 1000000) :
    Calls Try.prog 59 #[.int .i64 layer, str raw, .agg (entC e).toArray] w fun r w' => r = .returned (.bool (befB layer raw e)) ∧ Keep w w' := by
  obtain ⟨el, er, ek⟩ := e
  simp only at h2
  unfold entC befB
  simp only
  have A := Arr.new w 64 [.int .i64 el, str er, .int .i64 ek]
  have K0 := (Keep.refl w).alloc (.cells #[.int .i64 el, str er, .int .i64 ek] 64)
  have a0 := A.cell 0
  have a1 := A.cell 1
  simp only [List.getElem?_cons_zero, List.getElem?_cons_succ] at a0 a1
  by_cases h : layer = el
  · have t : (layer != el) = false := by simpa using h
    rw [if_pos h]
    clear h
    go_enter Try.func59, Try.ntmps59
    go_wp2_with fail
    refine (lessBytes_c raw er _ h1 h2).mono ?_
    rintro e w1 ⟨rfl, k1⟩
    go_wp2
    go_ret
    exact ⟨rfl, K0.trans k1⟩
  · have t : (layer != el) = true := by simpa using h
    rw [if_neg h]
    clear h
    go_enter Try.func59, Try.ntmps59
    go_wp2_with fail
    go_ret
    exact ⟨rfl, K0⟩
set_option maxHeartbeats 1000000 in
theorem crowded_c (g o b n : Nat) (live dead : Nat) (w : World) (c0 : w.cell? ⟨g, o, none⟩ = some (.slice (some ⟨b, 0, none⟩) n n)) (c1 : w.cell? ⟨g, o + 1, none⟩ = some (.int .i64 live)) (c2 : w.cell? ⟨g, o + 2, none⟩ = some (.int .i64 dead)) (hn : n ≤ 2 ^ 20) (hl : live ≤ 2 ^ 20) (hd : dead ≤ 2 ^ 20) :
    Calls Try.prog 63 #[.pointer (some ⟨g, o, none⟩)] w fun e w' => e = .returned (.bool (decide ((live + dead + 1) * 4 > n * 3))) ∧ Keep w w' := by
  go_enter Try.func63, Try.ntmps63
  go_wp2_with fail
  go_quiet (fail)
  go_wp2_with fail
  go_ret
  refine ⟨?_, (Keep.refl w).drewN _⟩
  have e : decide ((n : Int) * 3 < ((live : Int) + dead + 1) * 4) = decide ((live + dead + 1) * 4 > n * 3) := decide_eq_decide.2 (by omega)
  exact congrArg (fun b => Ending.returned (Value.bool b)) e
end Go.Proofs.Qxb6500766a
