/- foldindex: room. -/
import Derived.Test.Qxb6500766aDa
import Derived.Deep.LoopGhost
namespace Go.Proofs.Qxb6500766a
open Go.RowKit Go.Qm
set_option linter.unusedVariables false
set_option linter.unusedSimpArgs false
attribute [local go_sem ↓] Go.wp_at_zero Go.wp_at_succ
/-- room's answer: a shelf that is not used, or one that was emptied. -/
def RoomP (w : World) (gc : Nat) (src : Value) (sh : List Shelf) (ck : Int) (tl : List Value) (e : Ending) (w' : World) : Prop :=
  ∃ (i : Nat) (tl' : List Value), i < 16 ∧ e = .returned (.int .i64 (i : Int)) ∧ TlOK ck tl' ∧ w.grownBy w' (some gc) ∧ ((shU sh i = false ∧ Arr w' gc 75 (cacheL src sh tl')) ∨ Arr w' gc 75 (cacheL src (sh.set i sh0) tl'))
set_option maxRecDepth 4000 in
set_option maxHeartbeats 4000000 in
theorem room_c (gc : Nat) (src : Value) (sh : List Shelf) (ck : Int) (tl : List Value) (w : World) (hA : Arr w gc 75 (cacheL src sh tl)) (hl : sh.length = 16) (ht : TlOK ck tl) :
    Calls Try.prog 60 #[.pointer (some ⟨gc, 0, none⟩)] w fun e w' => RoomP w gc src sh ck tl e w' := by
  have HL := Hid.mk hl
  have g : ∀ i (hi : i < sh.length), sh.getD i sh0 = sh[i] := fun i hi => by rw [List.getD_eq_getElem?_getD, List.getElem?_eq_getElem hi]; rfl
  have HG := Hid.mk g
  clear hl g
  have HT := Hid.mk ht
  clear ht
  go_enter Try.func60, Try.ntmps60
  go_wp2_with fail
  go_loopg [3, 4] 16 (fun gk ov iv wr => ∃ k j : Nat, k + gk = 16 ∧ iv = .int .i64 k ∧ ov = .int .i64 j ∧ j < 16 ∧ Arr wr gc 75 (cacheL src sh tl) ∧ w.grownBy wr (some gc))
  case atStart => exact ⟨0, 0, by omega, rfl, rfl, by omega, hA, grown_refl _ _⟩
  case round =>
    obtain ⟨k, j, hk, rfl, rfl, hj, hA, gr⟩ := hrel
    have HK := Hid.mk hk
    clear hk
    have hjs : j < sh.length := by have := HL.out; omega
    have j1 : (j : Int) < 16 := by omega
    obtain ⟨d0, d1, d2, d3, d4, d5⟩ := Arr.shelf hA hjs
    by_cases hlt : k < 16
    · have i1 : (k : Int) < 16 := by omega
      have hks : k < sh.length := by have := HL.out; omega
      obtain ⟨c0, c1, c2, c3, c4, c5⟩ := Arr.shelf hA hks
      have HU : Hid (shU sh k = sh[k].used) := Hid.mk (by unfold shU; rw [HG.out k hks])
      generalize sh[k] = X at *
      generalize sh[j] = Y at *
      obtain ⟨xu, xd, xs, xv, xl, xe⟩ := X
      obtain ⟨yu, yd, ys, yv, yl, ye⟩ := Y
      simp only at c0 c1 c2 c3 c4 c5 d0 d1 d2 d3 d4 d5 HU
      clear c1 c3 c4 c5 d0 d1 d3 d4 d5
      cases xu with
      | false =>
        go_wp2_with fail
        go_ret
        obtain ⟨x0, x1, x2, x3, x4, x5, e⟩ := HT.out
        exact ⟨k, tl, hlt, rfl, HT.out, gr, Or.inl ⟨HU.out, hA⟩⟩
      | true =>
        by_cases hs : xs < ys
        · go_wp2_with fail
          go_quiet (fail)
          go_wp2_with fail
          go_roundg (gk - 1)
          case measure => have := HK.out; omega
          case rel => exact ⟨k + 1, k, by have := HK.out; omega, by go_num, rfl, hlt, Go.Qm.Arr.drewN hA nq, grown_drewN gr nq⟩
        · go_wp2_with fail
          go_quiet (fail)
          go_wp2_with fail
          go_roundg (gk - 1)
          case measure => have := HK.out; omega
          case rel => exact ⟨k + 1, j, by have := HK.out; omega, by go_num, rfl, hj, Go.Qm.Arr.drewN hA nq, grown_drewN gr nq⟩
    · have i1 : ¬ (k : Int) < 16 := by omega
      have f0 := Go.Qm.Arr.frozen hA (1 + j * 6)
      have f1 := Go.Qm.Arr.frozen hA (1 + j * 6 + 1)
      have f2 := Go.Qm.Arr.frozen hA (1 + j * 6 + 2)
      have f3 := Go.Qm.Arr.frozen hA (1 + j * 6 + 3)
      have f4 := Go.Qm.Arr.frozen hA (1 + j * 6 + 4)
      have f5 := Go.Qm.Arr.frozen hA (1 + j * 6 + 5)
      have BF := (((((Go.Qm.Arr.set hA (1 + j * 6) (.bool false)).set (1 + j * 6 + 1) (.int .i64 0)).set (1 + j * 6 + 2) (.int .u64 0)).set (1 + j * 6 + 3) (.slice none 0 0)).set (1 + j * 6 + 4) (.int .i64 0)).set (1 + j * 6 + 5) (.int .i64 0)
      have e := cacheL_set src sh tl j hjs sh0
      unfold sh0 at e
      simp only at e
      rw [e] at BF
      have hl2 : (sh.set j ⟨false, 0, 0, .slice none 0 0, 0, 0⟩).length = 16 := by rw [List.length_set]; exact HL.out
      obtain ⟨x0, x1, x2, x3, x4, x5, rfl⟩ := HT.out
      have cE := Arr.tl BF hl2 3
      have fE := Go.Qm.Arr.frozen BF (97 + 3)
      have BS := Arr.tlSet BF hl2 3 (.int .i64 (wrap64 (x2 + 1)))
      simp only [tlL, List.getElem?_cons_zero, List.getElem?_cons_succ, List.set_cons_zero, List.set_cons_succ, Nat.reduceAdd] at cE fE BS
      have GF := grown_set (grown_set (grown_set (grown_set (grown_set (grown_set (grown_set gr (1 + j * 6) (.bool false)) (1 + j * 6 + 1) (.int .i64 0)) (1 + j * 6 + 2) (.int .u64 0)) (1 + j * 6 + 3) (.slice none 0 0)) (1 + j * 6 + 4) (.int .i64 0)) (1 + j * 6 + 5) (.int .i64 0)) 100 (.int .i64 (wrap64 (x2 + 1)))
      have HBS := Hid.mk BS
      clear e BF hl2 BS
      generalize sh[j] = X at *
      go_wp2_with fail
      go_ret
      exact ⟨j, _, hj, rfl, ⟨x0, x1, _, x3, x4, x5, rfl⟩, GF, Or.inr HBS.out⟩
end Go.Proofs.Qxb6500766a
