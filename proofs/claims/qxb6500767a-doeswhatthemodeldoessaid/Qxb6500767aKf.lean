/- foldkeym: reorder. -/
import Derived.Test.Qxb6500767aKc
namespace Go.Proofs.Qxb6500767a
open Go.RowKit Go.Qm
set_option linter.unusedVariables false
set_option linter.unusedSimpArgs false
attribute [local go_sem ↓] Go.wp_at_zero Go.wp_at_succ
def swp (l : List Int) (j : Nat) : List Int := (l.set j (l.getD (j + 1) 0)).set (j + 1) (l.getD j 0)
def insB (l : List Int) (j : Nat) : Bool := decide (classF (l.getD (j + 1) 0) ≠ 0) && decide (classF (l.getD j 0) > classF (l.getD (j + 1) 0))
def insF (l : List Int) : Nat → List Int
  | 0 => l
  | j + 1 => if insB l j = true then insF (swp l j) j else l
def stayB (l : List Int) : Nat → Bool
  | 0 => false
  | j + 1 => insB l j
def reoK (l : List Int) : Nat → List Int
  | 0 => l
  | i + 1 => insF (reoK l i) (i + 1)
theorem swp_length (l : List Int) (j : Nat) : (swp l j).length = l.length := by simp [swp]
theorem insF_length : ∀ (j : Nat) (l : List Int), (insF l j).length = l.length
  | 0, l => rfl
  | j + 1, l => by rw [insF]; split; rw [insF_length j, swp_length]; rfl
theorem reoK_length (l : List Int) : ∀ i, (reoK l i).length = l.length
  | 0 => rfl
  | i + 1 => by rw [reoK, insF_length, reoK_length l i]
def reoF (l : List Int) : List Int := reoK l (l.length - 1)
set_option maxRecDepth 2000 in
set_option maxHeartbeats 2000000 in
theorem reorder_c (g n cap : Nat) (l : List Int) (sp : List Value) (w : World) (hg : w.heap[g]? = some (.cells (l.map rv ++ sp).toArray 21 (0, 0))) (hn : n = l.length) (h1 : 1 ≤ n) (hl : n ≤ 2000) (hc : n ≤ cap) :
    Calls Try.prog 102 #[.slice (some ⟨g, 0, none⟩) n cap] w fun e w' => e = .returned (.tuple #[]) ∧ w'.heap[g]? = some (.cells ((reoF l).map rv ++ sp).toArray 21 (0, 0)) ∧ w.grownBy w' (some g) := by
  have HN := Hid.mk hn
  clear hn
  go_enter Try.func102, Try.ntmps102
  go_wp2_with fail
  go_loopg [2] (n - 1) (fun gk iv wr => ∃ i : Nat, i + 1 + gk = n ∧ iv = .int .i64 ((i + 1 : Nat) : Int) ∧ wr.heap[g]? = some (.cells ((reoK l i).map rv ++ sp).toArray 21 (0, 0)) ∧ w.grownBy wr (some g))
  case atStart => exact ⟨0, by omega, rfl, hg, grown_refl _ _⟩
  case round => as_aux_lemma =>
    obtain ⟨i, hi, rfl, hb, gr⟩ := hrel
    by_cases hlt : i + 1 < n
    · have i1 : ((i + 1 : Nat) : Int) < n := by omega
      have hln : (reoK l i).length = n := by rw [reoK_length, HN.out]
      have HI := Hid.mk hi
      obtain ⟨M, hM⟩ : ∃ M, M = reoK l i := ⟨_, rfl⟩
      have ER : Hid (reoK l (i + 1) = insF M (i + 1)) := Hid.mk (by rw [hM]; rfl)
      rw [← hM] at hb hln
      clear hM
      obtain ⟨i0, hi0⟩ : ∃ i0, i0 = i + 1 := ⟨_, rfl⟩
      rw [← hi0]
      rw [← hi0] at i1 hlt
      have HI0 := Hid.mk hi0
      clear hi hi0
      go_wp2_with fail
      go_loopg [3] i0 (fun gj jv wx => ∃ (j : Nat) (m : List Int), j = gj ∧ j ≤ i0 ∧ jv = .int .i64 j ∧ m.length = n ∧ insF M i0 = insF m j ∧ wx.heap[g]? = some (.cells (m.map rv ++ sp).toArray 21 (0, 0)) ∧ w.grownBy wx (some g))
      case atStart => exact ⟨i0, M, rfl, Nat.le_refl _, rfl, hln, rfl, hb, gr⟩
      case round => as_aux_lemma =>
        obtain ⟨j, m, hjg, hj, rfl, hml, hins, hbm, grm⟩ := hrel
        have HINS := Hid.mk hins
        have HJG := Hid.mk hjg
        clear hjg
        have HML := Hid.mk hml
        clear hins hb gr hln hml
        obtain ⟨cnd, hcnd⟩ : ∃ b, b = stayB m j := ⟨_, rfl⟩
        have HCND := Hid.mk hcnd
        clear hcnd
        go_upto_region 4 with fail
        go_cut [34] from 11 to 52 (fun c wx => c = .bool cnd ∧ ∃ k, wx = wr.drewN k)
        case first => as_aux_lemma =>
          cases j with
          | zero =>
            have e0 : ¬ ((0 : Nat) : Int) > 0 := by omega
            go_quiet (fail)
            go_wp2_with fail
            go_meet
            case rel => exact ⟨by rw [HCND.out]; rfl, nq, rfl⟩
          | succ q =>
            have e0 : ((q + 1 : Nat) : Int) > 0 := by omega
            have e1 : IntKind.i64.wrap (((q + 1 : Nat) : Int) - 1) = (q : Int) := by rw [IntKind.wrap_i64] <;> omega
            have hq : q < m.length := by have := HML.out; omega
            have hq1 : q + 1 < m.length := by have := HML.out; omega
            have c0 : wr.cell? ⟨g, q, none⟩ = some (.int .i32 (m.getD q 0)) := by rw [blk_cell hbm, List.getElem?_append_left (by simpa using hq), List.getElem?_map, List.getD_eq_getElem?_getD, List.getElem?_eq_getElem hq]; rfl
            have c1 : wr.cell? ⟨g, q + 1, none⟩ = some (.int .i32 (m.getD (q + 1) 0)) := by rw [blk_cell hbm, List.getElem?_append_left (by simpa using hq1), List.getElem?_map, List.getD_eq_getElem?_getD, List.getElem?_eq_getElem hq1]; rfl
            have HB : Hid (insB m q = (decide (classF (m.getD (q + 1) 0) ≠ 0) && decide (classF (m.getD q 0) > classF (m.getD (q + 1) 0)))) := Hid.mk rfl
            have i2 : ((q + 1 : Nat) : Int) < n := by omega
            have i3 : (q : Int) < n := by omega
            generalize m.getD (q + 1) 0 = x1 at *
            generalize m.getD q 0 = x0 at *
            have C1 := fun W => class_c x1 W
            have C0 := fun W => class_c x0 W
            generalize classF x1 = k1 at *
            generalize classF x0 = k0 at *
            clear hbm
            by_cases e2 : k1 = 0
            · have e2' : (k1 != 0) = false := by simpa using e2
              have HV : Hid (Value.bool (insB m q) = .bool false) := Hid.mk (by rw [HB.out, e2]; rfl)
              clear e2 HB
              go_quiet ((go_at_call 106; first | (with_reducible refine Calls.quiet_of_same (C1 _)) | (with_reducible refine Calls.quiet_of_same (C0 _))))
              go_wp2_with fail
              go_meet
              case rel => exact ⟨by rw [HCND.out]; exact HV.out.symm, nq, rfl⟩
            · have e2' : (k1 != 0) = true := by simpa using e2
              by_cases e3 : k0 > k1
              · have HV : Hid (Value.bool (insB m q) = .bool true) := Hid.mk (by rw [HB.out, decide_eq_true e2, decide_eq_true e3]; rfl)
                have e3' : decide (k1 < k0) = true := decide_eq_true e3
                clear e2 HB
                go_quiet ((go_at_call 106; first | (with_reducible refine Calls.quiet_of_same (C1 _)) | (with_reducible refine Calls.quiet_of_same (C0 _))))
                go_wp2_with fail
                go_meet
                case rel => exact ⟨by rw [HCND.out]; exact HV.out.symm, nq, rfl⟩
              · have HV : Hid (Value.bool (insB m q) = .bool false) := Hid.mk (by rw [HB.out, decide_eq_true e2, decide_eq_false e3]; rfl)
                have e3' : decide (k1 < k0) = false := decide_eq_false e3
                clear e2 HB
                go_quiet ((go_at_call 106; first | (with_reducible refine Calls.quiet_of_same (C1 _)) | (with_reducible refine Calls.quiet_of_same (C0 _))))
                go_wp2_with fail
                go_meet
                case rel => exact ⟨by rw [HCND.out]; exact HV.out.symm, nq, rfl⟩
        case rest => as_aux_lemma =>
          obtain ⟨rfl, kk, rfl⟩ := hcut
          have hbm' : (wr.drewN kk).heap[g]? = some (.cells (m.map rv ++ sp).toArray 21 (0, 0)) := hbm
          have grm' : w.grownBy (wr.drewN kk) (some g) := grown_drewN grm kk
          clear hbm grm
          generalize wr.drewN kk = wy at *
          have hs : (swp m (j - 1)).length = n := by rw [swp_length, HML.out]
          cases cnd with
          | false =>
            have HR : Hid (insF M i0 = m) := Hid.mk (by
              have hc := HCND.out
              cases j with
              | zero => rw [HINS.out]; rfl
              | succ q => rw [HINS.out, insF, if_neg (by rw [show insB m q = false from hc.symm]; simp)])
            go_wp2_with fail
            have HGK := HI.out
            go_roundg (n - i0 - 1)
            case measure => have := HI.out; have := HI0.out; omega
            case rel => exact ⟨i + 1, by have := HI.out; have := HI0.out; omega, by have := HI0.out; go_num, by rw [ER.out, ← HI0.out, HR.out]; exact hbm', grm'⟩
          | true =>
            cases j with
            | zero => have := HCND.out; simp [stayB] at this
            | succ q =>
              have HR : Hid (insF M i0 = insF (swp m q) q) := Hid.mk (by rw [HINS.out, insF, if_pos (show insB m q = true from HCND.out.symm)])
              have e1 : IntKind.i64.wrap (((q + 1 : Nat) : Int) - 1) = (q : Int) := by rw [IntKind.wrap_i64] <;> omega
              have hq : q < m.length := by have := HML.out; omega
              have hq1 : q + 1 < m.length := by have := HML.out; omega
              have c0 : wy.cell? ⟨g, q, none⟩ = some (.int .i32 (m.getD q 0)) := by rw [blk_cell hbm', List.getElem?_append_left (by simpa using hq), List.getElem?_map, List.getD_eq_getElem?_getD, List.getElem?_eq_getElem hq]; rfl
              have c1 : wy.cell? ⟨g, q + 1, none⟩ = some (.int .i32 (m.getD (q + 1) 0)) := by rw [blk_cell hbm', List.getElem?_append_left (by simpa using hq1), List.getElem?_map, List.getD_eq_getElem?_getD, List.getElem?_eq_getElem hq1]; rfl
              have f0 := blk_frozen hbm' q
              have f1 := blk_frozen hbm' (q + 1)
              have HSW : Hid (((m.map rv ++ sp).set q (.int .i32 (m.getD (q + 1) 0))).set (q + 1) (.int .i32 (m.getD q 0)) = ((swp m q).map rv ++ sp)) := Hid.mk (by
                rw [List.set_append_left _ _ (by simpa using hq), List.set_append_left _ _ (by simpa using hq1), swp, List.map_set, List.map_set])
              have i2 : ((q + 1 : Nat) : Int) < n := by omega
              have i3 : (q : Int) < n := by omega
              generalize m.getD (q + 1) 0 = x1 at *
              generalize m.getD q 0 = x0 at *
              go_upto_region 6 with fail
              go_region
              go_wp2_with fail
              have hb2 := blk_set (blk_set hbm' q (.int .i32 x1)) (q + 1) (.int .i32 x0)
              rw [HSW.out] at hb2
              have gr2 := grown_set (grown_set grm' q (.int .i32 x1)) (q + 1) (.int .i32 x0)
              go_roundg q
              case measure => have := HJG.out; omega
              case rel => exact ⟨q, swp m q, rfl, by omega, rfl, hs, HR.out, hb2, grown_drew gr2⟩
    · have i1 : ¬ ((i + 1 : Nat) : Int) < n := by omega
      have HE : Hid (reoF l = reoK l i) := Hid.mk (by rw [reoF]; congr 1; have := HN.out; omega)
      go_wp2_with fail
      go_end0
      rw [HE.out]
      exact ⟨rfl, hb, gr⟩
end Go.Proofs.Qxb6500767a
