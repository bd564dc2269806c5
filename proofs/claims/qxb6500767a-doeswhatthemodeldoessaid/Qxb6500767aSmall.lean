/- zzSmall1; the states along a script. -/
import Derived.Test.Qxb6500767aScript
import Derived.Test.Qxb6500767aGl
namespace Go.Proofs.Qxb6500767a
open Go.RowKit Go.Qm
set_option linter.unusedVariables false
set_option linter.unusedSimpArgs false
def SmallS (ss : List OpV) : Prop := ss.length ≤ 65536 ∧ ∀ s ∈ ss, s.path.length ≤ 65536 ∧ s.path2.length ≤ 65536 ∧ s.data.length ≤ 65536
def SmP (ss : List OpV) (e : Ending) : Prop := ∃ b, e = .returned (.bool b) ∧ (b = true → SmallS ss)
set_option maxHeartbeats 2000000 in
theorem small_c (v : Value) (ss : List OpV) (w : World) (h : Script w v ss) :
    Calls Try.prog 10 #[v] w fun e w' => SmP ss e ∧ Keep w w' := by
  obtain ⟨a, c, rfl, hac, hcm, hca⟩ := h
  unfold maxLen at hcm
  by_cases hbig : (ss.length : Int) > 65536
  · go_enter Try.func10, Try.ntmps10
    go_wp2
    go_ret
    exact ⟨⟨false, rfl, by simp⟩, Keep.refl _⟩
  · go_enter Try.func10, Try.ntmps10
    go_wp2
    go_loop [3, 4] (fun nv iv => ∃ (k : Nat) (m : Int), k ≤ ss.length ∧ iv = .int .i64 k ∧ nv = .int .i64 m ∧ 0 ≤ m ∧ m ≤ 65536 ∧ ∀ j (hj : j < k) (hk : k ≤ ss.length), ((ss[j]'(by omega)).path.length : Int) ≤ 65536 ∧ ((ss[j]'(by omega)).path2.length : Int) ≤ 65536 ∧ ((ss[j]'(by omega)).data.length : Int) ≤ 65536) (fun _ i => ss.length - (intOf i).toNat)
    case atStart => exact ⟨0, _, by omega, rfl, rfl, by omega, by omega, fun j hj => by omega⟩
    case round =>
      obtain ⟨k, m, hk, rfl, rfl, hm0, hm1, hall⟩ := hrel
      by_cases hlt : k < ss.length
      · obtain ⟨b, o, rfl, hop⟩ := hca k hlt
        have c7 := hop.c7
        have c8 := hop.c8
        have c9 := hop.c9
        have l7 := hop.l7
        have l8 := hop.l8
        have l9 := hop.l9
        unfold reachBytes at l7 l8 l9
        have i1 : (k : Int) < ss.length := by omega
        have j7 : (ss[k].path.length : Int) ≤ 140737488351232 := by omega
        have j8 : (ss[k].path2.length : Int) ≤ 140737488351232 := by omega
        have j9 : (ss[k].data.length : Int) ≤ 140737488351232 := by omega
        have HA := Hid.mk hall
        clear hop l7 l8 l9 hca hall
        by_cases b0 : m + (ss[k].path.length : Int) > 65536
        · go_wp2
          go_ret
          exact ⟨⟨false, rfl, by simp⟩, Keep.refl _⟩
        by_cases b1 : m + (ss[k].path.length : Int) + (ss[k].path2.length : Int) > 65536
        · go_wp2
          go_ret
          exact ⟨⟨false, rfl, by simp⟩, Keep.refl _⟩
        by_cases b2 : m + (ss[k].path.length : Int) + (ss[k].path2.length : Int) + (ss[k].data.length : Int) > 65536
        · go_wp2
          go_ret
          exact ⟨⟨false, rfl, by simp⟩, Keep.refl _⟩
        go_wp2
        go_round
        case rel =>
          refine ⟨k + 1, _, by omega, by go_num, rfl, by omega, by omega, fun j hj hk2 => ?_⟩
          by_cases hjk : j = k
          · subst hjk; omega
          · have := HA.out j (by omega) hk; omega
        case measure => simp [intOf]; omega
      · have i1 : ¬ (k : Int) < ss.length := by omega
        have hkl : k = ss.length := by omega
        have hall2 : Hid (∀ s ∈ ss, s.path.length ≤ 65536 ∧ s.path2.length ≤ 65536 ∧ s.data.length ≤ 65536) := Hid.mk (fun s hs => by
          obtain ⟨j, hj, rfl⟩ := List.getElem_of_mem hs
          have := hall j (by omega) hk
          omega)
        clear hall
        go_wp2
        go_ret
        exact ⟨⟨true, rfl, fun _ => ⟨by omega, hall2.out⟩⟩, Keep.refl _⟩
/-- The states along a script. -/
noncomputable def runS (ss : List OpV) (k : Nat) : Stt := (ss.take k).foldl (fun s o => (playF s o).2) st0
theorem runS_succ {ss : List OpV} {k : Nat} (h : k < ss.length) : runS ss (k + 1) = (playF (runS ss k) ss[k]).2 := by
  unfold runS
  rw [List.take_succ_eq_append_getElem h, List.foldl_append]
  rfl
theorem run_si (ss : List OpV) : ∀ k, k ≤ ss.length → SI k (runS ss k).u (runS ss k).hs (runS ss k).T
  | 0, _ => si0
  | k + 1, h => by
    rw [runS_succ (by omega)]
    exact play_si (run_si ss k (by omega)) _
theorem TreeW.lo {B gt : Nat} {fp : Nat → Prop} {w : World} {T : List Nd} (h : TreeW B fp w gt T) {q : Nat} (hq : fp q) : B ≤ q := (h.own hq).1
theorem Stp.keepB {fp fp' : Nat → Prop} {w0 w w' : World} {B gw gf gt : Nat} {s : Stt} (k : Keep w0 w) (W : WW B fp w gw gf gt s) (hB : w0.heap.size ≤ B) (st : Stp (fpV fp gf) (fpV fp' gf) w w') : Keep w0 w' :=
  ⟨st.1.os.trans k.os, st.1.tape.trans k.tape, st.1.output.trans k.output, Nat.le_trans k.size st.1.size, fun q hq => by
    rw [st.1.block q (Nat.lt_of_lt_of_le hq k.size) (fun a => by
      rcases a with a | a
      · have := W.v.tree.lo a; omega
      · have := W.v.lo; omega)]
    exact k.block q hq⟩
end Go.Proofs.Qxb6500767a
