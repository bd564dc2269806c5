/- The law TooLong: its walk. -/
import Derived.Test.Qxb6500771aTlC
import Derived.Deep.CutRange
namespace Go.Proofs.Qxb6500771a
open Go.RowKit Go.Qm
set_option linter.unusedVariables false
set_option linter.unusedSimpArgs false
attribute [local go_sem ↓] Go.wp_at_zero Go.wp_at_succ

set_option maxHeartbeats 400000 in
theorem repeatL_c (c : UInt8) (n : Nat) (w : World) (hn : n ≤ 2000000) :
    Calls Try.prog 19 #[.int .u8 c.toNat, .int .i64 n] w fun e w' => ∃ v', e = .returned v' ∧ Own w.heap.size 5 w' v' ((List.replicate n c).map cb) ∧ Keep w w' := by
  go_enter Try.func19, Try.ntmps19
  go_wp2
  go_loopw [5, 6] (fun ov i wr => ∃ k : Nat, k ≤ n ∧ i = .int .i64 k ∧ Own w.heap.size 5 wr ov ((List.replicate k c).map cb) ∧ Keep w wr) (fun _ i _ => n - (intOf i).toNat)
  case atStart => exact ⟨0, by omega, rfl, Own.lit [] (Nat.le_refl _) (by simp), (Keep.refl _).alloc _⟩
  case round =>
    obtain ⟨k, hk, rfl, hown, kw⟩ := hrel
    by_cases hlt : k < n
    · have hlt' : (k : Int) < n := by omega
      have hg : (0 : Int) ≤ k := by omega
      have hkl : ((List.replicate k c).map cb).length = k := by simp
      have HK := Hid.mk hkl
      clear hkl
      go_wp2_with (at_builtin; refine wpList_app (by rfl) _ _ _ (by rfl) Try.underlying26 inf5 rfl w.heap.size (hown.alloc _) (Sl.one _) (by simp [Value.oneCell']) (by rfl) (by rfl) (by rw [HK.out]; simp [maxLen]; omega) (by rw [HK.out]; simp; omega) (by have := kw.size; simp; omega) ?_; intro v' w' hown' hgr hob)
      go_roundw
      case rel => exact ⟨k + 1, by omega, by go_num, by rw [List.replicate_succ', List.map_append]; exact hown', (kw.alloc _).grown hgr (fun q hq => (hown.lt q hq).1)⟩
      case measure => simp [intOf]; omega
    · have hlt' : ¬ (k : Int) < n := by omega
      go_wp2
      go_ret
      have : k = n := by omega
      subst this
      exact ⟨_, rfl, by simpa using hown, kw⟩


theorem checkShape_c (e : Int) (w : World) (h : srv e) : Calls Try.prog 57 #[.int .i32 e, .bool true, .int .u16 0] w fun x w' => x = .returned (.tuple #[.agg #[.int .i64 (kl e), .int .i64 16, .int .i64 (cl e)], .int .i64 0]) ∧ Keep w w' := by
  have A0 := Arr.new w 80 zer3
  have K0 := (Keep.refl w).alloc (.cells zer3.toArray 80)
  have SO := fun W => sizesOf_ok e W h
  generalize kl e = a at *
  generalize cl e = b at *
  go_enter Try.func57, Try.ntmps57
  go_wp2_with fail
  refine (SO _).mono ?_
  rintro x w1 ⟨rfl, k1⟩
  have KB := (Keep.refl w1).alloc (.cells #[.int .i64 a, .int .i64 16, .int .i64 b] 80)
  have A1 := (A0.keep k1).keep KB
  have K1 := (K0.trans k1).trans KB
  go_wp2_with (refine wpList_store_rowN (by rfl) 80 (.tmp 6) (.tmp 26) (by rfl) w.heap.size [.int .i64 a, .int .i64 16, .int .i64 b].toArray (by rfl) (by rfl) 3 80 _ A1 s80 (by rfl) (by rfl) (by simp [Value.oneCell']) ?_)
  have AR := A1.row [.int .i64 a, .int .i64 16, .int .i64 b]
  have r0 := AR.cell 0
  have r1 := AR.cell 1
  have r2 := AR.cell 2
  simp only [List.getElem?_cons_zero, List.getElem?_cons_succ] at r0 r1 r2
  refine bodyPost_ret (v := .tuple #[.agg #[.int .i64 a, .int .i64 16, .int .i64 b], .int .i64 0]) (by simp [results, Try.results57, go_sem, r0, r1, r2]) rfl ⟨rfl, K1.setRow (Nat.le_refl _) _⟩
theorem wrapLen_c (e : Int) (w : World) (h : srv e) : Calls Try.prog 48 #[.int .i32 e, .bool true, .int .u16 0, .int .i64 1048576] w fun x w' => ∃ v', x = .returned (.tuple #[v', .int .i64 0]) ∧ Keep w w' := by
  have CS := fun W => checkShape_c e W h
  have OV := fun W => overhead_c e (kl e) 16 (cl e) W h
  generalize kl e = a at *
  generalize cl e = b at *
  go_enter Try.func48, Try.ntmps48
  go_wp2_with fail
  refine (CS _).mono ?_
  rintro x w1 ⟨rfl, k1⟩
  go_wp2_with fail
  refine (OV _).mono ?_
  rintro x w2 ⟨⟨q, hq, rfl⟩, k2⟩
  go_wp2
  go_ret2
  exact ⟨_, rfl, k1.trans (((Keep.refl w1).alloc _).trans k2)⟩
theorem maxWrapLen_c (e : Int) (w : World) (h : srv e) : Calls Try.prog 31 #[.int .i32 e, .bool true, .int .u16 0] w fun x w' => ∃ v', x = .returned (.tuple #[v', .int .i64 0]) ∧ Keep w w' := by
  go_enter Try.func31, Try.ntmps31
  go_wp2_with fail
  refine (wrapLen_c e _ h).mono ?_
  rintro x w1 ⟨v1, rfl, k1⟩
  go_wp2
  go_ret2
  exact ⟨_, rfl, k1⟩
theorem major4_c (w : World) : Calls Try.prog 32 #[.int .i64 4] w fun x w' => x = .returned (.int .u32 851968) ∧ Keep w w' := by
  go_enter Try.func32, Try.ntmps32
  go_wp2
  go_ret
  exact ⟨rfl, Keep.refl _⟩
theorem rep0_c (w : World) : Calls Try.prog 19 #[.int .u8 0, .int .i64 1048577] w fun e w' => ∃ a c, e = .returned (.slice a 1048577 c) ∧ Keep w w' := by
  refine Calls.mono (repeatL_c 0 1048577 w (by omega)) ?_
  rintro e w' ⟨v', rfl, o, k⟩
  obtain ⟨a, c, rfl, -⟩ := o.bs.form
  rw [List.length_replicate]
  exact ⟨a, c, rfl, k⟩
theorem rep1_c (n : Nat) (w : World) (hn : n ≤ 1000) : Calls Try.prog 19 #[.int .u8 1, .int .i64 n] w fun e w' => ∃ a c, e = .returned (.slice a n c) ∧ Keep w w' := by
  refine Calls.mono (repeatL_c 1 n w (by omega)) ?_
  rintro e w' ⟨v', rfl, o, k⟩
  obtain ⟨a, c, rfl, -⟩ := o.bs.form
  rw [List.length_replicate]
  exact ⟨a, c, rfl, k⟩
theorem rep2_c (w : World) : Calls Try.prog 19 #[.int .u8 2, .int .i64 16] w fun e w' => ∃ a c, e = .returned (.slice a 16 c) ∧ Keep w w' := by
  refine Calls.mono (repeatL_c 2 16 w (by omega)) ?_
  rintro e w' ⟨v', rfl, o, k⟩
  obtain ⟨a, c, rfl, -⟩ := o.bs.form
  rw [List.length_replicate]
  exact ⟨a, c, rfl, k⟩
def zer2 : List Value := [.int .i32 0, .slice none 0 0]
def ets : List Int := [17, 18, 19, 20, 25, 26]
def et (k : Nat) : Int := ets.getD k 17
theorem et_srv (k : Nat) (h : k < 6) : srv (et k) := by
  match k, h with
  | 0, _ => unfold srv; decide
  | 1, _ => unfold srv; decide
  | 2, _ => unfold srv; decide
  | 3, _ => unfold srv; decide
  | 4, _ => unfold srv; decide
  | 5, _ => unfold srv; decide
theorem et_cell (k : Nat) (h : k < 6) : ([.int .i32 17, .int .i32 18, .int .i32 19, .int .i32 20, .int .i32 25, .int .i32 26] : List Value)[k]? = some (.int .i32 (et k)) := by
  match k, h with
  | 0, _ => rfl
  | 1, _ => rfl
  | 2, _ => rfl
  | 3, _ => rfl
  | 4, _ => rfl
  | 5, _ => rfl
set_option maxRecDepth 1400 in
set_option maxHeartbeats 4000000 in
theorem tooLong_c (w : World) : Calls Try.prog 5 #[] w fun e w' => e = .returned (.bool true) ∧ Keep w w' := by
  go_enter Try.func5, Try.ntmps5
  go_wp2_with fail
  refine (rep0_c _).mono ?_
  rintro e w1 ⟨aL, cL, rfl, k1⟩
  have AT0 := Arr.new w1 25 [.int .i32 17, .int .i32 18, .int .i32 19, .int .i32 20, .int .i32 25, .int .i32 26]
  have K0 := k1.alloc (.cells #[.int .i32 17, .int .i32 18, .int .i32 19, .int .i32 20, .int .i32 25, .int .i32 26] 25)
  go_wp2_with fail
  obtain ⟨g2, hg2⟩ : ∃ g, g = w1.heap.size := ⟨_, rfl⟩
  rw [← hg2] at AT0 ⊢
  clear hg2
  go_loopw [3] (fun iv wr => ∃ k : Nat, k ≤ 6 ∧ iv = .int .i64 k ∧ Arr wr g2 25 [.int .i32 17, .int .i32 18, .int .i32 19, .int .i32 20, .int .i32 25, .int .i32 26] ∧ Keep w wr) (fun i _ => 6 - (intOf i).toNat)
  case atStart => exact ⟨0, by omega, rfl, AT0, K0⟩
  case round =>
    clear AT0 K0
    obtain ⟨k, hk, rfl, AT, kw⟩ := hrel
    by_cases hlt : k < 6
    · have i0 : (k : Int) < 6 := by omega
      have hs := et_srv k hlt
      have ce : ∀ W, Keep wr W → W.cell? ⟨g2, k, none⟩ = some (.int .i32 (et k)) := fun W K => by rw [(AT.keep K).cell k]; exact et_cell k hlt
      generalize et k = e at *
      have kle := kl_le e
      have C0 := ce wr (Keep.refl _)
      have KLC := fun W => keyLen_c e W
      have R1 := fun W => rep1_c (kl e) W (by omega)
      go_upto_region 6 with fail
      go_cut [4] from 16 to 85 (fun pv wx => ∃ (g : Nat) (aK : Option Addr) (cK : Nat), pv = .pointer (some ⟨g, 0, none⟩) ∧ Arr wx g 56 [.int .i32 e, .slice aK (kl e) cK] ∧ Keep wr wx)
      case first =>
        generalize kl e = ke at *
        go_region_held3 (fun w' => w'.cell? ⟨g2, k, none⟩ = some (.int .i32 e))
          ((refine ce _ ?_; first | (with_reducible exact Q2) | (with_reducible exact Q2.alloc _) | (with_reducible exact (Q2.setCell hQ _).setCell hQ _) | (with_reducible exact Q1) | (with_reducible exact Q1.alloc _) | (with_reducible exact (Keep.refl _).drew) | (with_reducible exact ((Keep.refl _).alloc _).drew)))
          (first
          | (go_at_call 27; refine (KLC _).mono ?_; rintro x y1 ⟨rfl, q1⟩; have Q1 : Keep wr y1 := (by first | (with_reducible exact (Keep.refl wr).drew.trans q1) | (with_reducible exact ((Keep.refl wr).alloc _).drew.trans q1)); (first | (have NA : Arr y1 wr.heap.size 56 zer2 := Arr.keep (Arr.new wr 56 zer2) (by unfold zer2; with_reducible exact (Keep.refl _).drew.trans q1)) | skip))
          | (go_at_call 19; refine (R1 _).mono ?_; rintro x y2 ⟨aK, cK, rfl, q2⟩; have Q2 : Keep wr y2 := (by first | (with_reducible exact Q1.trans q2) | (with_reducible exact (Q1.alloc _).trans q2)); (first | (have NB : Arr y2 wr.heap.size 56 zer2 := NA.keep q2; have hQ : wr.heap.size ≤ wr.heap.size := Nat.le_refl _; have t0 := NB.cell 0; have t1 := NB.cell 1; simp only [zer2, List.getElem?_cons_zero, List.getElem?_cons_succ] at t0 t1; have u0 := NB.frozen 0; have u1 := NB.frozen 1) | (have NB : Arr y2 y1.heap.size 56 zer2 := Arr.keep (Arr.new y1 56 zer2) (by unfold zer2; with_reducible exact q2); have hQ : wr.heap.size ≤ y1.heap.size := Q1.size; have t0 := NB.cell 0; have t1 := NB.cell 1; simp only [zer2, List.getElem?_cons_zero, List.getElem?_cons_succ] at t0 t1; have u0 := NB.frozen 0; have u1 := NB.frozen 1) | skip)))
        all_goals
          go_wp2_with fail
          go_meet
          case rel =>
            first
            | exact ⟨_, aK, cK, rfl, Arr.new y2 56 _, Q2.alloc _⟩
            | exact ⟨_, aK, cK, rfl, blk_set (blk_set NB 0 (.int .i32 e)) 1 (.slice aK ke cK), (Q2.setCell hQ _).setCell hQ _⟩
      case rest =>
        obtain ⟨g4, aK, cK, rfl, AK, kx⟩ := hcut
        have C1 := ce wc kx
        have CNL := fun W => confounderLen_c e W hs
        go_wp2_with fail
        refine (CNL _).mono ?_
        rintro x w3 ⟨rfl, k3⟩
        go_wp2_with fail
        refine (rep2_c _).mono ?_
        rintro x w4 ⟨aC, cC, rfl, k4⟩
        have K4 := kx.trans (k3.trans k4)
        have AK4 := AK.keep (k3.trans k4)
        have KS := (Keep.refl w4).alloc (.cells #[.int .u32 0, .int .u8 2, .int .u64 0, .int .u16 0, .int .u16 0, .slice aC 16 cC] 58)
        have AS := Arr.new w4 58 [.int .u32 0, .int .u8 2, .int .u64 0, .int .u16 0, .int .u16 0, .slice aC 16 cC]
        have AKS := AK4.keep KS
        have ALL : ∀ W, Keep (w4.alloc (.cells #[.int .u32 0, .int .u8 2, .int .u64 0, .int .u16 0, .int .u16 0, .slice aC 16 cC] 58)) W → W.cell? ⟨g4, 0, none⟩ = some (.int .i32 e) ∧ W.cell? ⟨g4, 1, none⟩ = some (.slice aK (kl e) cK) ∧ W.cell? ⟨w4.heap.size, 0, none⟩ = some (.int .u32 0) ∧ W.cell? ⟨w4.heap.size, 1, none⟩ = some (.int .u8 2) ∧ W.cell? ⟨w4.heap.size, 2, none⟩ = some (.int .u64 0) ∧ W.cell? ⟨w4.heap.size, 3, none⟩ = some (.int .u16 0) ∧ W.cell? ⟨w4.heap.size, 4, none⟩ = some (.int .u16 0) ∧ W.cell? ⟨w4.heap.size, 5, none⟩ = some (.slice aC 16 cC) := fun W K => by
          have B1 := AKS.keep K
          have B2 := AS.keep K
          exact ⟨B1.cell 0, B1.cell 1, B2.cell 0, B2.cell 1, B2.cell 2, B2.cell 3, B2.cell 4, B2.cell 5⟩
        obtain ⟨p0, p1, p2, p3, p4, p5, p6, p7⟩ := ALL _ ((Keep.refl _).alloc (.cells #[] 5))
        have LF : lof 1048577 = 1048577 := by unfold lof; rw [if_neg (by omega)]
        have PW := fun W => planWrap_long e aK (kl e) cK 0 2 0 0 0 aC 16 cC 1048577 W hs rfl (by omega) (by omega)
        rw [← LF] at PW
        have WR1 := fun W dv => wrap_ref dv e aK (kl e) cK 4 0 2 0 0 0 aC 16 cC aL 1048577 cL W (by omega) (by omega) PW
        have PW2 := fun W => planWrap_long e aK (kl e) cK 0 0 0 0 0 none 0 0 1048577 W hs rfl (by omega) (by omega)
        rw [← LF] at PW2
        have WR2 := fun W dv => wrap_ref dv e aK (kl e) cK 4 0 0 0 0 0 none 0 0 aL 1048577 cL W (by omega) (by omega) PW2
        have PM := fun W => planMIC_long e aK (kl e) cK 0 0 none 0 0 1048577 W hs rfl (by omega)
        rw [← LF] at PM
        have MR := fun W dv => mic_ref dv e aK (kl e) cK 4 0 0 0 0 0 none 0 0 aL 1048577 cL W (by omega) (by omega) PM
        clear PW PW2 PM LF
        generalize kl e = ke at *
        go_wp2_with fail
        refine (WR1 _ _).mono ?_
        rintro x w5 ⟨rfl, k5⟩
        have Q5 := (((Keep.refl (w4.alloc (.cells #[.int .u32 0, .int .u8 2, .int .u64 0, .int .u16 0, .int .u16 0, .slice aC 16 cC] 58)))).alloc (.cells #[] 5)).trans k5
        clear p0 p1 p2 p3 p4 p5 p6 p7
        obtain ⟨p0, p1, p2, p3, p4, p5, p6, p7⟩ := ALL _ (Q5.alloc (.cells #[] 5))
        go_wp2_with fail
        refine (WR2 _ _).mono ?_
        rintro x w6 ⟨rfl, k6⟩
        have Q6 := (Q5.alloc (.cells #[] 5)).trans k6
        clear p0 p1 p2 p3 p4 p5 p6 p7
        obtain ⟨p0, p1, p2, p3, p4, p5, p6, p7⟩ := ALL _ (Q6.alloc (.cells #[] 5))
        go_wp2_with fail
        refine (MR _ _).mono ?_
        rintro x w7 ⟨rfl, k7⟩
        have Q7 := (Q6.alloc (.cells #[] 5)).trans k7
        have K7 := K4.trans (KS.trans Q7)
        have C7 := ce w7 K7
        clear p0 p1 p2 p3 p4 p5 p6 p7
        go_wp2_with fail
        refine (maxWrapLen_c e _ hs).mono ?_
        rintro x w8 ⟨v8, rfl, k8⟩
        have K8 := K7.trans k8
        go_wp2_with fail
        go_roundw
        case rel => exact ⟨k + 1, by omega, by go_num, AT.keep K8, kw.trans K8⟩
        case measure => simp [intOf]; omega
    · have i0 : ¬ (k : Int) < 6 := by omega
      go_wp2_with fail
      refine (major4_c _).mono ?_
      rintro e w2 ⟨rfl, k2⟩
      go_wp2
      go_ret
      exact ⟨by simp, kw.trans k2⟩
end Go.Proofs.Qxb6500771a
