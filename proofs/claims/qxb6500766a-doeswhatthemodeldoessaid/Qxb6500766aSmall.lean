/- zzSmall1; a world that begins. -/
import Derived.Test.Qxb6500766aScript
import Derived.Test.Qxb6500766aDv
namespace Go.Proofs.Qxb6500766a
open Go.RowKit Go.Qm
set_option linter.unusedVariables false
set_option linter.unusedSimpArgs false
def SmallS (ss : List OpV) : Prop := ss.length ≤ 65536 ∧ ∀ s ∈ ss, s.name.length ≤ 65536
def SmP (ss : List OpV) (e : Ending) : Prop := ∃ b, e = .returned (.bool b) ∧ (b = true → SmallS ss)
set_option maxHeartbeats 2000000 in
theorem small_c (v : Value) (ss : List OpV) (w : World) (h : Script w v ss) :
    Calls Try.prog 8 #[v] w fun e w' => SmP ss e ∧ Keep w w' := by
  obtain ⟨a, c, rfl, hac, hcm, hca⟩ := h
  unfold maxLen at hcm
  by_cases hbig : (ss.length : Int) > 65536
  · go_enter Try.func8, Try.ntmps8
    go_wp2
    go_ret
    exact ⟨⟨false, rfl, by simp⟩, Keep.refl _⟩
  · go_enter Try.func8, Try.ntmps8
    go_wp2
    go_loop [3, 4] (fun nv iv => ∃ (k : Nat) (m : Int), k ≤ ss.length ∧ iv = .int .i64 k ∧ nv = .int .i64 m ∧ 0 ≤ m ∧ m ≤ 65536 ∧ ∀ j (hj : j < k) (hk : k ≤ ss.length), ((ss[j]'(by omega)).name.length : Int) ≤ m) (fun _ i => ss.length - (intOf i).toNat)
    case atStart => exact ⟨0, _, by omega, rfl, rfl, by omega, by omega, fun j hj => by omega⟩
    case round =>
      obtain ⟨k, m, hk, rfl, rfl, hm0, hm1, hall⟩ := hrel
      by_cases hlt : k < ss.length
      · obtain ⟨b, o, rfl, hop⟩ := hca k hlt
        have c3 := hop.c3
        have l3 := hop.l3
        unfold reachBytes at l3
        have i1 : (k : Int) < ss.length := by omega
        have j3 : (ss[k].name.length : Int) ≤ 140737488351232 := by omega
        have HA := Hid.mk hall
        clear hop l3 hca hall
        by_cases b0 : m + (ss[k].name.length : Int) > 65536
        · go_wp2
          go_ret
          exact ⟨⟨false, rfl, by simp⟩, Keep.refl _⟩
        go_wp2
        go_round
        case rel =>
          refine ⟨k + 1, _, by omega, by go_num, rfl, by omega, by omega, fun j hj hk2 => ?_⟩
          by_cases hjk : j = k
          · subst hjk; omega
          · have := HA.out j (by omega) hk; omega
        case measure => simp [intOf]; omega
      · have i1 : ¬ (k : Int) < ss.length := by omega
        have hkl : k = ss.length := by omega
        have hall2 : Hid (∀ s ∈ ss, s.name.length ≤ 65536) := Hid.mk (fun s hs => by
          obtain ⟨j, hj, rfl⟩ := List.getElem_of_mem hs
          have := hall j (by omega) hk
          omega)
        clear hall
        go_wp2
        go_ret
        exact ⟨⟨true, rfl, fun _ => ⟨by omega, hall2.out⟩⟩, Keep.refl _⟩
/-- The state of raw directories that a script begins with. -/
def sys0 : Sys := fun _ _ => []
def NewP (w : World) (e : Ending) (w' : World) : Prop := ∃ gs gc gw fp, e = .returned (.pointer (some ⟨gw, 0, none⟩)) ∧ WW w.heap.size fp w' gs gc 0 sys0 ∧ Arr w' gw 38 [.pointer (some ⟨gs, 0, none⟩), .pointer (some ⟨gc, 0, none⟩)] ∧ ¬ fp gw ∧ w.heap.size ≤ gw ∧ Keep w w'
theorem newW (w : World) : Calls Try.prog 9 #[] w fun e w' => NewP w e w' := by
  refine (newWorld_c w).mono ?_
  rintro e w' ⟨gs, gc, gw, rfl, h1, h2, h3, As, Ac, Aw, k⟩
  have S : StkW w.heap.size w' gs stk0 sys0 := ⟨As, by unfold stk0; exact List.length_replicate, fun d l hd hl => ⟨.slice none 0 0, by unfold stk0; rw [List.getElem?_replicate, if_pos (by omega)], OwnS.nil _ _ _ _ _⟩, fun d hd => ⟨fun l hl => List.Pairwise.nil, fun l hl => by simp [sys0], fun l hl r hr => by simp [sys0] at hr⟩⟩
  rw [cache0_eq] at Ac
  have C : CW w.heap.size w' gs gc 0 sys0 _ _ (fun _ => none) := CW.empty (ck := 0) Ac ⟨0, 0, 0, 0, 0, 0, rfl⟩
  refine ⟨gs, gc, gw, _, rfl, WW.of S C (Nat.le_refl _) h1 (by omega), Aw, ?_, by omega, k⟩
  rintro (a | ⟨i, v, hv, a⟩ | a | ⟨i, t, e, a⟩)
  · omega
  · have : v = .slice none 0 0 := by
      unfold stk0 at hv
      rw [List.getElem?_replicate] at hv
      split at hv
      · exact (Option.some.inj hv).symm
      · cases hv
    subst this
    cases a
  · omega
  · cases e
/-- The states along a script. -/
def runS (ss : List OpV) (k : Nat) : Sys := (ss.take k).foldl (fun R o => (playF R o).2) sys0
theorem runS_succ {ss : List OpV} {k : Nat} (h : k < ss.length) : runS ss (k + 1) = (playF (runS ss k) ss[k]).2 := by
  unfold runS
  rw [List.take_succ_eq_append_getElem h, List.foldl_append]
  rfl
theorem Stp.keepB {fp fp' : Nat → Prop} {w0 w w' : World} {B gs gc N : Nat} {R : Sys} (k : Keep w0 w) (W : WW B fp w gs gc N R) (hB : w0.heap.size ≤ B) (st : Stp fp fp' w w') : Keep w0 w' :=
  ⟨st.1.os.trans k.os, st.1.tape.trans k.tape, st.1.output.trans k.output, Nat.le_trans k.size st.1.size, fun q hq => by
    rw [st.1.block q (Nat.lt_of_lt_of_le hq k.size) (fun a => by have := (W.lo a).1; omega)]
    exact k.block q hq⟩
theorem play_len {B : Nat} {fp : Nat → Prop} {w : World} {gs gc N : Nat} {R : Sys} (h : WW B fp w gs gc N R) (o : OpV) : (playF R o).1.es.length ≤ 96 := by
  unfold playF addF remF lookF nextF cntF ans
  repeat' split
  all_goals first | exact Nat.zero_le _ | skip
  rename_i hd
  obtain ⟨n, e, hn⟩ := dirB_nat hd
  show (bear (R o.dir.toNat) _).length ≤ 96
  rw [e, Int.toNat_natCast]
  exact bear_le (h.ok hn).len _
end Go.Proofs.Qxb6500766a
