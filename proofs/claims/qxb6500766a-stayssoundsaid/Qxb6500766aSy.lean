/- StaysSound. -/
import Derived.Test.Qxb6500766aSs
namespace Go.Proofs.Qxb6500766a
open Go.RowKit Go.Qm
set_option linter.unusedVariables false
set_option linter.unusedSimpArgs false
attribute [local go_sem ↓] Go.wp_at_zero Go.wp_at_succ
theorem cachedW {B : Nat} {fp : Nat → Prop} {w : World} {gs gc N : Nat} {R : Sys} (h : WW B fp w gs gc N R) : Calls Try.prog 18 #[.pointer (some ⟨gc, 0, none⟩)] w fun e w' => CachP w e w' := by
  obtain ⟨ck, vs, sh, tl, G, hc, S, C, hf⟩ := h.ex
  exact cached_c C
theorem soundW {B : Nat} {fp : Nat → Prop} {w : World} {gs gc N : Nat} {R : Sys} (h : WW B fp w gs gc N R) : Calls Try.prog 19 #[.pointer (some ⟨gc, 0, none⟩)] w fun e w' => e = .returned (.bool true) ∧ Keep w w' := by
  obtain ⟨ck, vs, sh, tl, G, hc, S, C, hf⟩ := h.ex
  exact soundC_c C S.ok
set_option maxRecDepth 4000 in
set_option maxHeartbeats 4000000 in
theorem stays_c (v : Value) (ss : List OpV) (w : World) (h : Script w v ss) : Calls Try.prog 6 #[v] w fun e w' => e = .returned (.bool true) ∧ Keep w w' := by
  have SM := small_c v ss w h
  obtain ⟨av, cv, rfl, hac, hcm, hca⟩ := h
  unfold maxLen at hcm
  go_enter Try.func6, Try.ntmps6
  go_wp2_with fail
  refine SM.mono ?_
  rintro e w1 ⟨⟨b, rfl, hsm⟩, k1⟩
  cases b with
  | false =>
    go_wp2_with fail
    go_ret
    exact ⟨rfl, k1⟩
  | true =>
    obtain ⟨hlen, hnm⟩ := hsm rfl
    have HNM := Hid.mk hnm
    have HCA := Hid.mk hca
    clear hsm hnm hca SM
    go_wp2_with fail
    refine (newW w1).mono ?_
    rintro e w2 ⟨gs, gc, gw, fp1, rfl, W1, A1, n1, hg1, k2⟩
    have TT : ∃ fp1, OneW w1 gs gc gw 0 (runS ss 0) fp1 w2 := ⟨fp1, W1, A1, n1, k2⟩
    have HTT := Hid.mk TT
    clear TT W1 A1 n1
    go_wp2_with fail
    go_loopg [4] ss.length (fun gk iv wr => ∃ (k : Nat) (fp1 : Nat → Prop), k + gk = ss.length ∧ iv = .int .i64 k ∧ OneW w1 gs gc gw k (runS ss k) fp1 wr)
    case atStart =>
      obtain ⟨f1, T⟩ := HTT.out
      exact ⟨0, f1, by omega, rfl, T⟩
    case round =>
      obtain ⟨k, f1, hk, rfl, T⟩ := hrel
      have HK := Hid.mk hk
      clear hk HTT
      by_cases hlt : k < ss.length
      · have i1 : (k : Int) < ss.length := by omega
        obtain ⟨b, o, rfl, hop⟩ := HCA.out k hlt
        have O4 := hop.keep (k1.trans T.kp)
        have hnk := HNM.out ss[k] (List.getElem_mem hlt)
        have RS : Hid (runS ss (k + 1) = (playF (runS ss k) ss[k]).2) := Hid.mk (runS_succ hlt)
        have PL1 := play_c ss[k] T.W1 T.A1 T.n1 (by omega) (by omega)
        clear hop
        generalize runS ss k = R at *
        generalize ss[k] = op at *
        unfold opC at PL1
        generalize playF R op = P at *
        have x0 := O4.c0
        have x1 := O4.c1
        have x2 := O4.c2
        have x3 := O4.c3
        have x4 := O4.c4
        clear O4
        go_wp2_with fail
        refine PL1.mono ?_
        rintro e w5 ⟨v1, f4, rfl, ev1, W5, st5⟩
        have T5 := T.step st5 W5
        clear x0 x1 x2 x3 x4
        have a1 := Go.Qm.Arr.cell T5.A1 1
        simp only [List.getElem?_cons_zero, List.getElem?_cons_succ] at a1
        have CA := cachedW T5.W1
        have SO := soundW T5.W1
        go_wp2_with fail
        refine CA.mono ?_
        rintro e w6 ⟨c, rfl, hc16, rfl⟩
        have t1 : ¬ (c : Int) > 16 := by omega
        go_wp2_with fail
        refine SO.mono ?_
        rintro e w7 ⟨rfl, k7⟩
        have T7 := T5.keep k7
        go_wp2_with fail
        go_roundg (gk - 1)
        case measure => have := HK.out; omega
        case rel => exact ⟨k + 1, f4, by have := HK.out; omega, by go_num, by rw [RS.out]; exact T7⟩
      · have i1 : ¬ (k : Int) < ss.length := by omega
        go_wp2_with fail
        go_ret
        exact ⟨rfl, k1.trans T.kp⟩
end Go.Proofs.Qxb6500766a
