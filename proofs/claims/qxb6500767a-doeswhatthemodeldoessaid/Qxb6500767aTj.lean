/- mutatem: Resize, WriteAt. -/
import Derived.Test.Qxb6500767aTi
namespace Go.Proofs.Qxb6500767a
open Go.RowKit Go.Qm
set_option linter.unusedVariables false
set_option linter.unusedSimpArgs false
attribute [local go_sem ↓] Go.wp_at_zero Go.wp_at_succ
theorem rep_winT (w : World) (n : Nat) : Win (w.alloc (.cells (rep n (.int .u8 0)) 5)) w.heap.size 5 [] (List.replicate n 0) [] := by
  have := heap_alloc_new w (.cells (rep n (.int .u8 0)) 5)
  rw [rep_cb] at this
  rw [rep_cb]
  unfold Win
  simpa using this
def rszD (d : List UInt8) (n : Nat) : List UInt8 := d.take n ++ List.replicate (n - d.length) 0
theorem rszD_length (d : List UInt8) (n : Nat) : (rszD d n).length = n := by unfold rszD; simp; omega
def resT (T : List Nd) (i n : Nat) : List Nd × Int := if (blk n : Int) - (blk (at' T i).data.length : Nat) > 512 - (usedB T : Nat) then (T, 14) else (T.set i { at' T i with data := rszD (at' T i).data n }, 0)
set_option maxRecDepth 3000 in
set_option maxHeartbeats 4000000 in
theorem resize_c (B gt i n : Nat) (fp : Nat → Prop) (T : List Nd) (w : World) (h : TreeW B fp w gt T) (hi : i < T.length) (hT : T.length ≤ 1000000) (hU : usedB T ≤ 1000000) (hn : n ≤ 2 ^ 22) (hdl : (at' T i).data.length ≤ 2 ^ 22) :
    Calls Try.prog 58 #[.pointer (some ⟨gt, 0, none⟩), .int .i64 i, .int .i64 n] w fun e w' => RetT B fp w gt (resT T i n).1 (.returned (.int .i64 (resT T i n).2)) e w' := by
  obtain ⟨R, hR⟩ : ∃ R, R = resT T i n := ⟨_, rfl⟩
  rw [← hR]
  have HTW := Hid.mk h
  have FB := freeBlocks_c gt T w h.tr hT hU
  obtain ⟨bn, cap, dv, ev, c0, h1, h2, n5, -, od, -, fz, fzk, -, SD⟩ := h.fresh hi
  obtain ⟨da, dc, rfl, hdc, hdm, hdca⟩ := od.bs.form
  have BK := fun W => blocksOf_c n W (by omega)
  have BD := fun W => blocksOf_c (at' T i).data.length W (by omega)
  have HSD := Hid.mk SD
  have HFZ := Hid.mk fzk
  have i1 : (i : Int) < T.length := by omega
  have i0 : (0 : Int) ≤ i := by omega
  have hmk := run_make1 (P := Try.prog) Try.underlying64 inf5 rfl (n : Int) (n : Int) (by omega) (by omega) (by omega) (by omega)
  unfold maxLen at h2 hdm
  have hbn : blk n ≤ 2 ^ 22 := by unfold blk; omega
  have hbd : blk (at' T i).data.length ≤ 2 ^ 22 := by unfold blk; omega
  have HR1 : Hid ((blk n : Int) - (blk (at' T i).data.length : Nat) > 512 - (usedB T : Nat) → R = (T, 14)) := Hid.mk (fun e => by rw [hR, resT, if_pos e])
  have HR2 : Hid (¬ (blk n : Int) - (blk (at' T i).data.length : Nat) > 512 - (usedB T : Nat) → R = (T.set i { at' T i with data := rszD (at' T i).data n }, 0)) := Hid.mk (fun e => by rw [hR, resT, if_neg e])
  have hob : ∀ q, (Value.slice da (at' T i).data.length dc).ownBlock = some q → q < w.heap.size := fun q hq => (od.lt q hq).2
  have hDb := od.bs
  clear hR h fz fzk SD od hdca
  generalize hD : (at' T i).data = D at *
  clear hD
  obtain ⟨dl, hdl'⟩ : ∃ dl, dl = D.length := ⟨_, rfl⟩
  rw [← hdl'] at n5 hdc hdl BD hbd HR1 HR2 hDb hob
  have HDL := Hid.mk hdl'
  clear hdl'
  generalize blk n = bN at *
  generalize blk dl = bD at *
  generalize usedB T = U at *
  have e1 : IntKind.i64.wrap ((bN : Int) - bD) = (bN : Int) - bD := by rw [IntKind.wrap_i64] <;> omega
  go_enter Try.func58, Try.ntmps58
  go_wp2_with fail
  refine (BK _).mono ?_
  rintro e w1 ⟨rfl, rfl⟩
  go_wp2_with fail
  refine (BD _).mono ?_
  rintro e w2 ⟨rfl, rfl⟩
  go_wp2_with fail
  refine FB.mono ?_
  rintro e w3 ⟨rfl, rfl⟩
  by_cases hc : (bN : Int) - (bD : Int) > 512 - (U : Int)
  · have HF := Hid.mk (HR1.out (by omega))
    clear HR1 HR2
    go_wp2_with fail
    go_ret
    rw [HF.out]
    exact ⟨fp, rfl, HTW.out, Stp.refl _ _⟩
  · have HF := Hid.mk (HR2.out (by omega))
    have W1 := rep_winT w3 n
    have K1 := (Keep.refl w3).alloc (.cells (rep n (.int .u8 0)) 5)
    clear HR1 HR2 FB BK BD
    go_wp2_with fail
    obtain ⟨w4, hw4⟩ : ∃ w4, w4 = w3.alloc (.cells (rep n (.int .u8 0)) 5) := ⟨_, rfl⟩
    rw [← hw4] at W1 K1
    rw [← hw4]
    obtain ⟨gN, hgN⟩ : ∃ gN, gN = w3.heap.size := ⟨_, rfl⟩
    rw [← hgN] at W1
    rw [← hgN]
    have hDn : (Value.slice da dl dc).ownBlock ≠ some gN := fun e => by have := hob gN e; omega
    have HGN : Hid (w3.heap.size ≤ gN) := Hid.mk (by omega)
    have hD4 := hDb.keep K1
    clear hw4 hgN hob hmk
    go_loopg [9] n (fun gk iv wr => ∃ k : Nat, k ≤ n ∧ k ≤ dl ∧ gk = n - k ∧ iv = .int .i64 k ∧ Win wr gN 5 [] (D.take k ++ List.replicate (n - k) 0) [] ∧ w4.grownBy wr (some gN))
    case atStart => exact ⟨0, by omega, by omega, rfl, rfl, W1, grown_refl _ _⟩
    case round => as_aux_lemma =>
      obtain ⟨k, hkn, hkd, hgk, rfl, hw', gr⟩ := hrel
      have HGK := Hid.mk hgk
      clear hgk
      have k0 : (0 : Int) ≤ k := by omega
      have KR : Keep w3 wr := K1.grown gr (fun q hq => by simp at hq; have := HGN.out; omega)
      have hlT : (D.take k).length = k := by rw [List.length_take, ← HDL.out]; omega
      have hFIN : (k = n ∨ k = dl) → D.take k ++ List.replicate (n - k) 0 = rszD D n := fun e => by
        unfold rszD
        rw [← HDL.out]
        rcases e with e | e
        · rw [e, Nat.sub_self, show n - dl = 0 by omega]
        · rw [e, List.take_of_length_le (by rw [← HDL.out]; exact Nat.le_refl _), List.take_of_length_le (l := D) (by rw [← HDL.out]; omega)]
      have LW : Hid ((D.take k ++ List.replicate (n - k) (0 : UInt8)).length = n) := Hid.mk (by rw [List.length_append, hlT, List.length_replicate]; omega)
      by_cases hlt : k < n ∧ k < dl
      · obtain ⟨hlt, hld⟩ := hlt
        have j1 : (k : Int) < n := by omega
        have j2 : (k : Int) < dl := by omega
        have hkD : k < D.length := by rw [← HDL.out]; exact hld
        obtain ⟨a', c', ev2, -, -, hcs⟩ := (hD4.kept gr hDn).form
        obtain ⟨b, o, ea, hc1⟩ := hcs k hkD
        simp only [Value.slice.injEq] at ev2
        obtain ⟨rfl, -, -⟩ := ev2
        subst ea
        have hl1 : k < (D.take k ++ List.replicate (n - k) (0 : UInt8)).length := by have := LW.out; omega
        have hset := hw'.set (k := k) hl1 D[k] (o := k) (by simp)
        have hf := hw'.frozen k
        have cc := hw'.cell (k := k) (o := k) hl1 (by simp)
        obtain ⟨cv, c3⟩ : ∃ cv : Value, wr.cell? ⟨gN, k, none⟩ = some cv := ⟨_, cc⟩
        have hse : (D.take k ++ List.replicate (n - k) (0 : UInt8)).set k D[k] = D.take (k + 1) ++ List.replicate (n - (k + 1)) 0 := by
          rw [List.set_append_right _ _ (by omega), hlT, Nat.sub_self, show n - k = (n - (k + 1)) + 1 by omega, List.replicate_succ, List.set_cons_zero, List.take_succ_eq_append_getElem hkD, List.append_assoc]
          rfl
        rw [hse] at hset
        have grs := grown_set gr k (.int .u8 D[k].toNat)
        generalize D[k] = x at *
        have HS := Hid.mk hset
        have GS := Hid.mk grs
        clear hset grs hse hl1 cc hw' gr hFIN hlT hD4 hDb KR hcs W1 K1
        go_wp2_with fail
        go_roundg (n - (k + 1))
        case measure => have := HGK.out; omega
        case rel => exact ⟨k + 1, by omega, by omega, rfl, by go_num, HS.out, GS.out⟩
      · have hend : k = n ∨ k = dl := by omega
        have HWF : Hid (Win wr gN 5 [] (rszD D n) []) := Hid.mk (by rw [← hFIN hend]; exact hw')
        have OW : Own w3.heap.size 5 wr (.slice (some ⟨gN, 0, none⟩) n n) ((rszD D n).map cb) := by
          have := Own.of_win (cap := n) HGN.out HWF.out (by rw [rszD_length]; rfl) (by unfold maxLen; omega)
          rwa [rszD_length] at this
        obtain ⟨fp', t, s⟩ := HSD.out wr _ _ KR OW
        have HT := Hid.mk t
        have HS := Hid.mk s
        have d0 := KR.cell c0
        have d5 := KR.cell n5
        have hf := HFZ.out wr KR (i * 7 + 5)
        clear t s OW hFIN hw' gr hlT hD4 hDb c0 n5 W1 K1
        by_cases hkn2 : k < n
        · have j1 : (k : Int) < n := by omega
          have j2 : ¬ (k : Int) < dl := by omega
          clear hend hlt
          go_wp2_with fail
          go_ret
          rw [HF.out]
          exact ⟨fp', rfl, HT.out, HS.out⟩
        · have j1 : ¬ (k : Int) < n := by omega
          clear hend hlt
          go_wp2_with fail
          go_ret
          rw [HF.out]
          exact ⟨fp', rfl, HT.out, HS.out⟩
end Go.Proofs.Qxb6500767a
