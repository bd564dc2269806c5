/- HandlesOutliveNames: the walk. -/
import Derived.Test.Qxb6500767aIg
import Derived.BigQuiet
namespace Go.Proofs.Qxb6500767a
open Go.RowKit Go.Qm
set_option linter.unusedVariables false
set_option linter.unusedSimpArgs false
attribute [local go_sem ↓] Go.wp_at_zero Go.wp_at_succ
set_option maxRecDepth 6000 in
set_option maxHeartbeats 16000000 in
theorem outlive_c (v : Value) (ss : List OpV) (w : World) (h : Script w v ss) : Calls Try.prog 6 #[v] w fun e w' => e = .returned (.bool true) ∧ Keep w w' := by
  have SM := small_c v ss w h
  obtain ⟨av, cv, rfl, hac, hcm, hca⟩ := h
  unfold maxLen at hcm
  go_enter Try.func6, Try.ntmps6
  go_wp2_with fail
  refine SM.mono ?_
  rintro e w1 ⟨⟨b, rfl, hsm⟩, k1⟩
  cases b with
  | false =>
    go_wp2_with fail
    go_ret
    exact ⟨rfl, k1⟩
  | true =>
    obtain ⟨hlen, hnm⟩ := hsm rfl
    have HNM := Hid.mk hnm
    have HCA := Hid.mk hca
    clear hsm hnm hca SM
    go_wp2_with fail
    refine (newWorld_c w1).mono ?_
    rintro e w2 ⟨gw, gf, gt, fp, rfl, W2, k2, hgw⟩
    have HW2 := Hid.mk W2
    clear W2
    go_wp2_with fail
    go_loopg [4] ss.length (fun gk iv wr => ∃ (k : Nat) (fp : Nat → Prop), k + gk = ss.length ∧ iv = .int .i64 k ∧ WW w1.heap.size fp wr gw gf gt (runS ss k) ∧ Keep w1 wr)
    case atStart => exact ⟨0, fp, by omega, rfl, HW2.out, k2⟩
    case round =>
      clear HW2
      obtain ⟨k, f1, hk, rfl, W_, kw⟩ := hrel
      obtain ⟨g1, hg1⟩ : ∃ g1, g1 = gk := ⟨_, rfl⟩
      subst hg1
      have HK := Hid.mk hk
      clear hk
      by_cases hlt : k < ss.length
      · have i1 : (k : Int) < ss.length := by omega
        have i0 : (0 : Int) ≤ k := by omega
        obtain ⟨b, o, rfl, hop⟩ := HCA.out k hlt
        have hnk := HNM.out ss[k] (List.getElem_mem hlt)
        have RS : Hid (runS ss (k + 1) = (playF (runS ss k) ss[k]).2) := Hid.mk (runS_succ hlt)
        have si := run_si ss k (by omega)
        have hhl := si.h.len
        have hu32 : (playF (runS ss k) ss[k]).2.u < 2 ^ 32 := (play_si si ss[k]).h.lt
        have PC := fun f W (hW : WW w1.heap.size f W gw gf gt (runS ss k)) => play_c ss[k] hW si (by omega) (by omega) (by omega) (by omega)
        have HX := Hid.mk (fun W (hk : Keep w1 W) => hop.keep (k1.trans hk))
        have hlaw := @names_law (runS ss k) k si ss[k]
        have HW := Hid.mk W_
        have HSI := Hid.mk si
        have HSI2 := Hid.mk (play_si si ss[k])
        have ON := fun W => onNames_c ss[k].kind W
        generalize runS ss k = S at *
        generalize ss[k] = op at *
        unfold PlayP at PC
        generalize playF S op = P at *
        obtain ⟨A, S'⟩ := P
        simp only at PC hlaw RS hu32 HSI2
        obtain ⟨okd, oh, ofl, omo, on, oo, owh, opp, op2, od⟩ := op
        unfold opC at PC
        simp only at PC hlaw hnk ON
        have HPC := Hid.mk PC
        have HLW := Hid.mk hlaw
        have X2 := HX.out _ kw
        have y0 := X2.c0
        simp only at y0
        clear hop si hhl PC hlaw hu32 hnk
        go_wp2_with fail
        refine (ON _).mono ?_
        rintro e wo ⟨rfl, rfl⟩
        cases hon : onN okd with
        | false =>
          have y1 := X2.c1
          have y2 := X2.c2
          have y3 := X2.c3
          have y4 := X2.c4
          have y5 := X2.c5
          have y6 := X2.c6
          have y7 := X2.c7
          have y8 := X2.c8
          have y9 := X2.c9
          simp only at y1 y2 y3 y4 y5 y6 y7 y8 y9
          have PC := HPC.out _ _ HW.out
          clear X2 HPC W_ HLW
          go_wp2_with fail
          refine PC.mono ?_
          rintro e w3 ⟨v, fp', rfl, dv, W3, st⟩
          have HRn : Hid (∀ x, x = S' → WW w1.heap.size fp' w3 gw gf gt x) := Hid.mk (fun x hx => by rw [hx]; exact W3)
          have kz := Stp.keepB kw HW.out (Nat.le_refl _) st
          clear dv W3 st PC
          go_wp2_with fail
          go_roundg (g1 - 1)
          case measure => have := HK.out; omega
          case rel => exact ⟨k + 1, fp', by have := HK.out; omega, by go_num, HRn.out _ RS.out, kz⟩
        | true =>
          obtain ⟨hsu, hsh, hns⟩ := HLW.out hon
          have VC := views_c W_
          have hVl := viewsF_length S.u S.hs
          have hV : ∀ n (hn : n < 32), (viewsF S.u S.hs)[n]? = some (lookF S.u S.hs (n : Nat)) := fun n hn => viewsF_get hn
          have HV := Hid.mk hV
          have HVS := Hid.mk (views_same hsu hsh)
          have hsz : (((viewsF S.u S.hs).flatMap vwC).toArray).size = 192 := by rw [List.size_toArray, vw_len, hVl]
          obtain ⟨V, hVe⟩ : ∃ V, V = viewsF S.u S.hs := ⟨_, rfl⟩
          rw [← hVe] at VC hVl HV HVS hsz
          have HVL := Hid.mk hVl
          have HNS := Hid.mk hns
          have HSU := Hid.mk hsu
          have HSH := Hid.mk hsh
          clear hV hVl hns hsu hsh W_ HLW X2 y0 ON hVe
          go_wp2_with fail
          refine VC.mono ?_
          rintro e w4 ⟨rfl, k4⟩
          go_upto_region 10 with (refine wpList_store_row (by rfl) 49 (.tmp 5) (.tmp 38) (by rfl) w4.heap.size (V.flatMap vwC).toArray (by rfl) (by rfl) 49 Try.zeroCells49 (heap_alloc_new w4 _) (by rw [hsz]; exact s49) (by rw [hsz]; kernel_rfl) (vw_ones _) ?_)
          have A5 : Arr ((w4.alloc (.cells Try.zeroCells49 49)).setRow w4.heap.size (V.flatMap vwC).toArray) w4.heap.size 49 (V.flatMap vwC) := by
            rw [zero49]; exact (Arr.new w4 49 _).row _
          have k5 : Keep w4 ((w4.alloc (.cells Try.zeroCells49 49)).setRow w4.heap.size (V.flatMap vwC).toArray) := ((Keep.refl w4).alloc _).setRow (Nat.le_refl _) _
          have n5 : ∀ q, w4.heap.size ≤ q → ¬ fpV f1 gf q := fun q hq a => by have := (HW.out.v.keep k4).flt a; omega
          generalize (w4.alloc (.cells Try.zeroCells49 49)).setRow w4.heap.size (V.flatMap vwC).toArray = w5 at *
          have hgT : w4.heap.size < w5.heap.size := A5.lt
          generalize w4.heap.size = gT at *
          have HA5 := Hid.mk A5
          have HN5 := Hid.mk n5
          have HW5 := Hid.mk (HW.out.keep (k4.trans k5))
          have k6 := kw.trans (k4.trans k5)
          clear A5 n5 VC hsz k4 k5 HW kw
          go_upto_region 12 with fail
          have K7 := ((Keep.refl w5).alloc (.cells Try.zeroCells54 54)).alloc (.cells #[.string ⟨#[]⟩, .string ⟨#[]⟩, .string ⟨#[]⟩, .string ⟨#[]⟩, .string ⟨#[]⟩, .string ⟨#[]⟩, .string ⟨#[]⟩, .string ⟨#[]⟩, .string ⟨#[]⟩, .string ⟨#[]⟩, .string ⟨#[]⟩, .string ⟨#[]⟩, .string ⟨#[]⟩, .string ⟨#[]⟩, .string ⟨#[]⟩, .string ⟨#[]⟩, .string ⟨#[]⟩, .string ⟨#[]⟩, .string ⟨#[]⟩, .string ⟨#[]⟩, .string ⟨#[]⟩, .string ⟨#[]⟩, .string ⟨#[]⟩, .string ⟨#[]⟩, .string ⟨#[]⟩, .string ⟨#[]⟩, .string ⟨#[]⟩, .string ⟨#[]⟩, .string ⟨#[]⟩, .string ⟨#[]⟩, .string ⟨#[]⟩, .string ⟨#[]⟩] 55)
          have S7 : Arr ((w5.alloc (.cells Try.zeroCells54 54)).alloc (.cells #[.string ⟨#[]⟩, .string ⟨#[]⟩, .string ⟨#[]⟩, .string ⟨#[]⟩, .string ⟨#[]⟩, .string ⟨#[]⟩, .string ⟨#[]⟩, .string ⟨#[]⟩, .string ⟨#[]⟩, .string ⟨#[]⟩, .string ⟨#[]⟩, .string ⟨#[]⟩, .string ⟨#[]⟩, .string ⟨#[]⟩, .string ⟨#[]⟩, .string ⟨#[]⟩, .string ⟨#[]⟩, .string ⟨#[]⟩, .string ⟨#[]⟩, .string ⟨#[]⟩, .string ⟨#[]⟩, .string ⟨#[]⟩, .string ⟨#[]⟩, .string ⟨#[]⟩, .string ⟨#[]⟩, .string ⟨#[]⟩, .string ⟨#[]⟩, .string ⟨#[]⟩, .string ⟨#[]⟩, .string ⟨#[]⟩, .string ⟨#[]⟩, .string ⟨#[]⟩] 55)) w5.heap.size 54 ((List.replicate 32 sta0).flatMap staC) := by
            rw [zero54]; exact (Arr.new w5 54 _).keep ((Keep.refl _).alloc _)
          have B7 : Arr ((w5.alloc (.cells Try.zeroCells54 54)).alloc (.cells #[.string ⟨#[]⟩, .string ⟨#[]⟩, .string ⟨#[]⟩, .string ⟨#[]⟩, .string ⟨#[]⟩, .string ⟨#[]⟩, .string ⟨#[]⟩, .string ⟨#[]⟩, .string ⟨#[]⟩, .string ⟨#[]⟩, .string ⟨#[]⟩, .string ⟨#[]⟩, .string ⟨#[]⟩, .string ⟨#[]⟩, .string ⟨#[]⟩, .string ⟨#[]⟩, .string ⟨#[]⟩, .string ⟨#[]⟩, .string ⟨#[]⟩, .string ⟨#[]⟩, .string ⟨#[]⟩, .string ⟨#[]⟩, .string ⟨#[]⟩, .string ⟨#[]⟩, .string ⟨#[]⟩, .string ⟨#[]⟩, .string ⟨#[]⟩, .string ⟨#[]⟩, .string ⟨#[]⟩, .string ⟨#[]⟩, .string ⟨#[]⟩, .string ⟨#[]⟩] 55)) (w5.heap.size + 1) 55 ((List.replicate 32 []).map str) := by
            have := Arr.new (w5.alloc (.cells Try.zeroCells54 54)) 55 ((List.replicate 32 []).map str)
            rw [show (w5.alloc (.cells Try.zeroCells54 54)).heap.size = w5.heap.size + 1 by simp] at this
            exact this
          generalize (w5.alloc (.cells Try.zeroCells54 54)).alloc (.cells #[.string ⟨#[]⟩, .string ⟨#[]⟩, .string ⟨#[]⟩, .string ⟨#[]⟩, .string ⟨#[]⟩, .string ⟨#[]⟩, .string ⟨#[]⟩, .string ⟨#[]⟩, .string ⟨#[]⟩, .string ⟨#[]⟩, .string ⟨#[]⟩, .string ⟨#[]⟩, .string ⟨#[]⟩, .string ⟨#[]⟩, .string ⟨#[]⟩, .string ⟨#[]⟩, .string ⟨#[]⟩, .string ⟨#[]⟩, .string ⟨#[]⟩, .string ⟨#[]⟩, .string ⟨#[]⟩, .string ⟨#[]⟩, .string ⟨#[]⟩, .string ⟨#[]⟩, .string ⟨#[]⟩, .string ⟨#[]⟩, .string ⟨#[]⟩, .string ⟨#[]⟩, .string ⟨#[]⟩, .string ⟨#[]⟩, .string ⟨#[]⟩, .string ⟨#[]⟩] 55) = w7 at *
          have HK7 := Hid.mk K7
          have HS7 := Hid.mk S7
          have HB7 := Hid.mk B7
          clear K7 S7 B7
          obtain ⟨gS, hgS⟩ : ∃ gS, gS = w5.heap.size := ⟨_, rfl⟩
          rw [← hgS] at HS7 HB7 ⊢
          have HGS := Hid.mk hgS
          clear hgS
          go_wp2_with fail
          go_loopg [8] 32 (fun gk hv wr => ∃ (n : Nat) (ls : List Sta) (lb : List (List UInt8)), n + gk = 32 ∧ hv = .int .i64 n ∧ ls.length = 32 ∧ lb.length = 32 ∧ (∀ i, i < n → ls[i]? = some (fstF S.u S.hs S.T (i : Nat)).1) ∧ (∀ i, i < n → lb[i]? = some (rdaF S.u S.hs S.T (i : Nat) 0 1048576).1) ∧ Arr wr gS 54 (ls.flatMap staC) ∧ Arr wr (gS + 1) 55 (lb.map str) ∧ Keep w5 wr)
          case atStart => exact ⟨0, List.replicate 32 sta0, List.replicate 32 [], by omega, rfl, by simp, by simp, fun i hi => by omega, fun i hi => by omega, HS7.out, HB7.out, HK7.out⟩
          case round =>
            clear HS7 HB7 HK7
            obtain ⟨n, ls, lb, hnk, rfl, hll, hlb, hls, hlc, AS, AB, kr⟩ := hrel
            have HNK := Hid.mk hnk
            have HLL := Hid.mk hll
            have HLB := Hid.mk hlb
            have HLS := Hid.mk hls
            have HLC := Hid.mk hlc
            have HAS := Hid.mk AS
            have HAB := Hid.mk AB
            clear hnk hll hlb hls hlc AS AB
            by_cases hn : n < 32
            · have i1 : (n : Int) < 32 := by omega
              have i0 : (0 : Int) ≤ n := by omega
              have Wr := HW5.out.keep kr
              have p1 : wr.cell? ⟨gw, 1, none⟩ = some (.pointer (some ⟨gf, 0, none⟩)) := Wr.arr.cell 1
              have FC := vFstat_c w1.heap.size gf gt S.u (n : Nat) f1 S.hs S.T wr Wr.v HSI.out.h.node
              have HRC := Hid.mk (fun W (kk : Keep w5 W) => vReadAt_c w1.heap.size gf gt S.u (n : Nat) 0 1048576 f1 S.hs S.T W (HW5.out.v.keep kk) HSI.out.h.node (fun i _ => by have := HSI.out.t.data i; omega))
              have HPP := Hid.mk (fun W (kk : Keep w5 W) => (HW5.out.keep kk).arr.cell 1)
              have HFX : Hid ((fstF S.u S.hs S.T (n : Nat)).1 = (fstF S.u S.hs S.T (n : Nat)).1) := Hid.mk rfl
              obtain ⟨X, hX⟩ : ∃ X, X = fstF S.u S.hs S.T (n : Nat) := ⟨_, rfl⟩
              obtain ⟨Y, hY⟩ : ∃ Y, Y = rdaF S.u S.hs S.T (n : Nat) 0 1048576 := ⟨_, rfl⟩
              rw [← hX] at FC
              rw [← hY] at HRC
              have HXe := Hid.mk hX
              have HYe := Hid.mk hY
              clear hX hY HFX Wr
              obtain ⟨⟨x0, x1, x2, x3, x4⟩, xe⟩ := X
              obtain ⟨yd, ye⟩ := Y
              unfold staV at FC
              simp only at FC HRC HXe HYe
              go_wp2_with fail
              refine FC.mono ?_
              rintro e w8 ⟨rfl, k8⟩
              have A8 := HAS.out.keep k8
              have hnl : n < ls.length := by rw [HLL.out]; exact hn
              obtain ⟨c0, c1, c2, c3, c4⟩ := A8.sget hnl
              have e0 := A8.frozen (n * 5)
              have e1 := A8.frozen (n * 5 + 1)
              have e2 := A8.frozen (n * 5 + 2)
              have e3 := A8.frozen (n * 5 + 3)
              have e4 := A8.frozen (n * 5 + 4)
              have HA9 := Hid.mk (A8.stat hnl ⟨x0, x1, x2, x3, x4⟩)
              have hge : w5.heap.size ≤ gS := by rw [HGS.out]; exact Nat.le_refl _
              have F9 := (((((Fr.refl (fun q => q = gS) w8).setCell (p := ⟨gS, n * 5, none⟩) (Or.inl rfl) (.int .i64 (x0 : Nat))).setCell (p := ⟨gS, n * 5 + 1, none⟩) (Or.inl rfl) (.int .i64 (x1 : Nat))).setCell (p := ⟨gS, n * 5 + 2, none⟩) (Or.inl rfl) (.int .i64 x2)).setCell (p := ⟨gS, n * 5 + 3, none⟩) (Or.inl rfl) (.int .i64 (x3 : Nat))).setCell (p := ⟨gS, n * 5 + 4, none⟩) (Or.inl rfl) (.int .i64 (x4 : Nat))
              have HB9 := Hid.mk (F9.arr (show ¬ (gS + 1 = gS) by omega) (HAB.out.keep k8))
              have HK9 := Hid.mk ((((((kr.trans k8).setCell (p := ⟨gS, n * 5, none⟩) hge (.int .i64 (x0 : Nat))).setCell (p := ⟨gS, n * 5 + 1, none⟩) hge (.int .i64 (x1 : Nat))).setCell (p := ⟨gS, n * 5 + 2, none⟩) hge (.int .i64 x2)).setCell (p := ⟨gS, n * 5 + 3, none⟩) hge (.int .i64 (x3 : Nat))).setCell (p := ⟨gS, n * 5 + 4, none⟩) hge (.int .i64 (x4 : Nat)))
              clear A8 F9 FC p1
              go_upto_region 16 with fail
              generalize ((((w8.setCell ⟨gS, n * 5, none⟩ (.int .i64 (x0 : Nat))).setCell ⟨gS, n * 5 + 1, none⟩ (.int .i64 (x1 : Nat))).setCell ⟨gS, n * 5 + 2, none⟩ (.int .i64 x2)).setCell ⟨gS, n * 5 + 3, none⟩ (.int .i64 (x3 : Nat))).setCell ⟨gS, n * 5 + 4, none⟩ (.int .i64 (x4 : Nat)) = w9 at *
              clear c0 c1 c2 c3 c4 e0 e1 e2 e3 e4
              have p2 : w9.cell? ⟨gw, 1, none⟩ = some (.pointer (some ⟨gf, 0, none⟩)) := HPP.out _ HK9.out
              go_wp2_with fail
              refine (HRC.out _ HK9.out).mono ?_
              rintro e w10 ⟨rfl, k10⟩
              have B10 := HB9.out.keep k10
              have hnb : n < lb.length := by rw [HLB.out]; exact hn
              have b0 : w10.cell? ⟨gS + 1, n, none⟩ = some (str lb[n]) := by rw [B10.cell, List.getElem?_map, List.getElem?_eq_getElem hnb]; rfl
              have b1 := B10.frozen n
              have B11 := B10.set n (str yd)
              rw [← List.map_set] at B11
              have HB11 := Hid.mk B11
              have hge1 : w5.heap.size ≤ gS + 1 := by rw [HGS.out]; exact Nat.le_succ _
              have HA11 := Hid.mk (((Fr.refl (fun q => q = gS + 1) w10).setCell (p := ⟨gS + 1, n, none⟩) (Or.inl rfl) (str yd)).arr (show ¬ (gS = gS + 1) by omega) (HA9.out.keep k10))
              have HK11 := Hid.mk ((HK9.out.trans k10).setCell (p := ⟨gS + 1, n, none⟩) hge1 (str yd))
              clear B10 B11 p2
              go_wp2_with fail
              go_roundg (gk - 1)
              case measure => have := HNK.out; omega
              case rel =>
                refine ⟨n + 1, ls.set n ⟨x0, x1, x2, x3, x4⟩, lb.set n yd, by have := HNK.out; omega, by go_num, by rw [List.length_set]; exact HLL.out, by rw [List.length_set]; exact HLB.out, fun i hi => ?_, fun i hi => ?_, HA11.out, HB11.out, HK11.out⟩
                · by_cases e : n = i
                  · subst e; rw [List.getElem?_set_self (by rw [HLL.out]; exact hn), ← HXe.out]
                  · rw [List.getElem?_set_ne e]; exact HLS.out i (by omega)
                · by_cases e : n = i
                  · subst e; rw [List.getElem?_set_self (by rw [HLB.out]; exact hn), ← HYe.out]
                  · rw [List.getElem?_set_ne e]; exact HLC.out i (by omega)
            · have i1 : ¬ (n : Int) < 32 := by omega
              have h32 : n = 32 := by have := HNK.out; omega
              subst h32
              have X2 := HX.out _ (k6.trans kr)
              have y0 := X2.c0
              have y1 := X2.c1
              have y2 := X2.c2
              have y3 := X2.c3
              have y4 := X2.c4
              have y5 := X2.c5
              have y6 := X2.c6
              have y7 := X2.c7
              have y8 := X2.c8
              have y9 := X2.c9
              simp only at y0 y1 y2 y3 y4 y5 y6 y7 y8 y9
              have PC := HPC.out _ _ (HW5.out.keep kr)
              have kq := k6.trans kr
              clear X2 HPC hn
              go_wp2_with fail
              refine PC.mono ?_
              rintro e w12 ⟨v, f12, rfl, dv, W12, st12⟩
              have HW12 := Hid.mk W12
              have kz := Stp.keepB kq (HW5.out.keep kr) (Nat.le_refl _) st12
              have hgS5 : gT ≤ gS := by rw [HGS.out]; omega
              have HT12 := Hid.mk (st12.1.arr (HN5.out gT (Nat.le_refl _)) (HA5.out.keep kr))
              have HS12 := Hid.mk (st12.1.arr (HN5.out gS hgS5) HAS.out)
              have HB12 := Hid.mk (st12.1.arr (HN5.out (gS + 1) (by omega)) HAB.out)
              have VC := fun W (kk : Keep w12 W) => views_c (W12.keep kk)
              rw [HVS.out] at VC
              have hu49 := Try.underlying49
              have hi49 : (Try.prog.info? 49).map (·.size) = some (V.flatMap vwC).length := by rw [vw_len, HVL.out]; exact s49
              have r0 : w12.rangeAt gT 0 (V.flatMap vwC) := fun j u hu => by rw [Nat.zero_add, HT12.out.cell]; exact hu
              have HR0 : Hid (∀ y, Keep w12 y → y.rangeAt gT 0 (V.flatMap vwC)) := Hid.mk (fun y ky j u hu => by rw [Nat.zero_add, (HT12.out.keep ky).cell]; exact hu)
              have hnv := fun W => neq_views (V := V) HVL.out W
              have hgd := fun W => guard49 .neq (.tmp 72) (.tmp 73) (V.flatMap vwC).toArray (V.flatMap vwC).toArray W
              have HNS2 : Hid (∀ i (hi : i < 32), (fstF S'.u S'.hs S'.T (i : Nat)).1.ino = (fstF S.u S.hs S.T (i : Nat)).1.ino ∧ (fstF S'.u S'.hs S'.T (i : Nat)).1.kind = (fstF S.u S.hs S.T (i : Nat)).1.kind ∧ (fstF S'.u S'.hs S'.T (i : Nat)).1.mode = (fstF S.u S.hs S.T (i : Nat)).1.mode ∧ ((fstF S'.u S'.hs S'.T (i : Nat)).1.kind ≠ 2 → (fstF S'.u S'.hs S'.T (i : Nat)).1.size = (fstF S.u S.hs S.T (i : Nat)).1.size) ∧ ((fstF S'.u S'.hs S'.T (i : Nat)).2 == 0) = S.u.testBit i) := Hid.mk (fun i hi => by rw [HSU.out, HSH.out]; exact fst_ns HSI.out HNS.out hi)
              have HNS3 : Hid (∀ i (hi : i < 32), rdaF S'.u S'.hs S'.T (i : Nat) 0 1048576 = rdaF S.u S.hs S.T (i : Nat) 0 1048576) := Hid.mk (fun i hi => by rw [HSU.out, HSH.out]; exact rda_ns HSI.out HNS.out hi _ _)
              clear dv W12 st12 PC y0 y1 y2 y3 y4 y5 y6 y7 y8 y9 HAS HAB HA5 HN5 HW5 k6 kr kq HX hgT HNS
              go_upto_region 18 with fail
              go_region_held3 (fun W => W.rangeAt gT 0 (V.flatMap vwC))
                (with_reducible first | assumption | exact r0 | exact HR0.out _ (Keep.refl w12).drew | exact HR0.out _ Q1)
                ((go_at_call 18; refine (VC _ (Keep.refl w12).drew).mono ?_; rintro x y ⟨rfl, qq⟩; have Q1 : Keep w12 y := (Keep.refl w12).drew.trans qq))
              have HWy := Hid.mk (HW12.out.keep Q1)
              have HTy := Hid.mk (HT12.out.keep Q1)
              have HSy := Hid.mk (HS12.out.keep Q1)
              have HBy := Hid.mk (HB12.out.keep Q1)
              have kzy := kz.trans Q1
              clear VC r0 HR0 hnv hgd hi49 hu49 HW12 HT12 HS12 HB12 kz
              have HS2 := Hid.mk (show SI (k + 1) S'.u S'.hs S'.T from HSI2.out)
              go_wp2_with fail
              go_loopg [9] 32 (fun gk hv wr => ∃ (n : Nat), n + gk = 32 ∧ hv = .int .i64 n ∧ Keep y wr)
              case atStart => exact ⟨0, by omega, rfl, Keep.refl _⟩
              case round =>
                obtain ⟨n, hnk, rfl, ky⟩ := hrel
                have HNK2 := Hid.mk hnk
                clear hnk
                by_cases hn : n < 32
                · have i2 : (n : Int) < 32 := by omega
                  have i3 : (0 : Int) ≤ n := by omega
                  have Wr := HWy.out.keep ky
                  have p1 : wr.cell? ⟨gw, 1, none⟩ = some (.pointer (some ⟨gf, 0, none⟩)) := Wr.arr.cell 1
                  have FC := vFstat_c w1.heap.size gf gt S'.u (n : Nat) f12 S'.hs S'.T wr Wr.v HS2.out.h.node
                  have HRC := Hid.mk (fun W (kk : Keep y W) => vReadAt_c w1.heap.size gf gt S'.u (n : Nat) 0 1048576 f12 S'.hs S'.T W (HWy.out.v.keep kk) HS2.out.h.node (fun i _ => by have := HS2.out.t.data i; omega))
                  have HPP := Hid.mk (fun W (kk : Keep y W) => (HWy.out.keep kk).arr.cell 1)
                  obtain ⟨q0, q1, q2, q4, qe⟩ := HNS2.out n hn
                  have hls := HLS.out n hn
                  have hlc := HLC.out n hn
                  have hrd := HNS3.out n hn
                  rw [hrd] at HRC
                  obtain ⟨X, hX⟩ : ∃ X, X = (fstF S.u S.hs S.T (n : Nat)).1 := ⟨_, rfl⟩
                  rw [← hX] at q0 q1 q2 q4 hls
                  obtain ⟨Y, hY⟩ : ∃ Y, Y = rdaF S.u S.hs S.T (n : Nat) 0 1048576 := ⟨_, rfl⟩
                  rw [← hY] at HRC hlc
                  obtain ⟨Zf, hZ⟩ : ∃ Zf, Zf = fstF S'.u S'.hs S'.T (n : Nat) := ⟨_, rfl⟩
                  rw [← hZ] at q0 q1 q2 q4 qe FC
                  clear hX hY hZ hrd Wr
                  obtain ⟨⟨z0, z1, z2, z3, z4⟩, ze⟩ := Zf
                  obtain ⟨x0, x1, x2, x3, x4⟩ := X
                  obtain ⟨yd, ye⟩ := Y
                  simp only at q0 q1 q2 q4 qe HRC hls hlc
                  subst q0 q1 q2
                  unfold staV at FC
                  simp only at FC
                  have hnl : n < ls.length := by rw [HLL.out]; exact hn
                  have hnb : n < lb.length := by rw [HLB.out]; exact hn
                  have hvn : n < V.length := by rw [HVL.out]; exact hn
                  rw [List.getElem?_eq_getElem hnl] at hls
                  rw [List.getElem?_eq_getElem hnb] at hlc
                  have hls2 := Option.some.inj hls
                  have hlc2 := Option.some.inj hlc
                  have hvx := HV.out n hn
                  rw [List.getElem?_eq_getElem hvn] at hvx
                  have hvx2 := Option.some.inj hvx
                  have hbit : V[n].opn = S.u.testBit n := by rw [hvx2, look_n _ _ hn]; cases S.u.testBit n <;> rfl
                  have HTC : Hid (∀ W, Keep y W → W.cell? ⟨gT, n * 6, none⟩ = some (.bool (S.u.testBit n))) := Hid.mk (fun W kk => by have := ((HTy.out.keep kk).vget hvn).1; rw [hbit] at this; exact this)
                  have HSC : Hid (∀ W, Keep y W → W.cell? ⟨gS, n * 5, none⟩ = some (.int .i64 (z0 : Nat)) ∧ W.cell? ⟨gS, n * 5 + 1, none⟩ = some (.int .i64 (z1 : Nat)) ∧ W.cell? ⟨gS, n * 5 + 2, none⟩ = some (.int .i64 z2) ∧ W.cell? ⟨gS, n * 5 + 4, none⟩ = some (.int .i64 (x4 : Nat))) := Hid.mk (fun W kk => by
                    obtain ⟨c0, c1, c2, c3, c4⟩ := (HSy.out.keep kk).sget hnl
                    rw [hls2] at c0 c1 c2 c4
                    exact ⟨c0, c1, c2, c4⟩)
                  have HBC : Hid (∀ W, Keep y W → W.cell? ⟨gS + 1, n, none⟩ = some (str yd)) := Hid.mk (fun W kk => by rw [(HBy.out.keep kk).cell, List.getElem?_map, List.getElem?_eq_getElem hnb, hlc2]; rfl)
                  have HQ4 := Hid.mk q4
                  generalize S.u.testBit n = tb at *
                  clear hls hlc hls2 hlc2 hvx hvx2 hbit hnl hnb hvn q4
                  go_wp2_with fail
                  refine FC.mono ?_
                  rintro e w14 ⟨rfl, k14⟩
                  go_upto_region 24 with fail
                  have K15 := (ky.trans k14).alloc (.cells #[.int .i64 (z0 : Nat), .int .i64 (z1 : Nat), .int .i64 z2, .int .i64 (z3 : Nat), .int .i64 (z4 : Nat)] 31)
                  have A15 : Arr (w14.alloc (.cells #[.int .i64 (z0 : Nat), .int .i64 (z1 : Nat), .int .i64 z2, .int .i64 (z3 : Nat), .int .i64 (z4 : Nat)] 31)) w14.heap.size 31 [.int .i64 (z0 : Nat), .int .i64 (z1 : Nat), .int .i64 z2, .int .i64 (z3 : Nat), .int .i64 (z4 : Nat)] := Arr.new w14 31 _
                  generalize w14.alloc (.cells #[.int .i64 (z0 : Nat), .int .i64 (z1 : Nat), .int .i64 z2, .int .i64 (z3 : Nat), .int .i64 (z4 : Nat)] 31) = w15 at *
                  generalize w14.heap.size = gX at *
                  have t1 := HTC.out _ K15
                  have p2 : w15.cell? ⟨gw, 1, none⟩ = some (.pointer (some ⟨gf, 0, none⟩)) := HPP.out _ K15
                  have z9 : (tb != tb) = false := by cases tb <;> rfl
                  have HA15 := Hid.mk A15
                  clear A15 FC p1
                  go_wp2_with fail
                  refine (HRC.out _ K15).mono ?_
                  rintro e w16 ⟨rfl, k16⟩
                  have K16 := K15.trans k16
                  obtain ⟨s0, s1, s2, s4⟩ := HSC.out _ K16
                  have b0 := HBC.out _ K16
                  have A16 := HA15.out.keep k16
                  have a0 : w16.cell? ⟨gX, 0, none⟩ = some (.int .i64 (z0 : Nat)) := A16.cell 0
                  have a1 : w16.cell? ⟨gX, 1, none⟩ = some (.int .i64 (z1 : Nat)) := A16.cell 1
                  have a2 : w16.cell? ⟨gX, 2, none⟩ = some (.int .i64 z2) := A16.cell 2
                  have a4 : w16.cell? ⟨gX, 4, none⟩ = some (.int .i64 (z4 : Nat)) := A16.cell 4
                  have m0 : ((z0 : Int) != (z0 : Int)) = false := by simp
                  have m1 : ((z1 : Int) != (z1 : Int)) = false := by simp
                  have m2 : (z2 != z2) = false := by simp
                  have m3 : (yd != yd) = false := by simp
                  clear A16 HRC t1 p2 HSC HBC HTC HPP
                  go_upto_region 27 with fail
                  go_cut [135] from 104 to 134 (fun tv wx => tv = .bool false ∧ Keep w16 wx)
                  case first =>
                    go_quiet (fail)
                    go_wp2_with fail
                    go_meet
                    case rel => exact ⟨rfl, (Keep.refl _).drewN _⟩
                  case rest =>
                    obtain ⟨rfl, k17⟩ := hcut
                    replace a1 := k17.cell a1
                    replace a4 := k17.cell a4
                    replace s4 := k17.cell s4
                    clear a0 a2 s0 s1 s2 b0
                    have K17 := K16.trans k17
                    by_cases hz : z1 = 2
                    · have hz2 : ((z1 : Int) != 2) = false := by rw [hz]; rfl
                      clear hz m1
                      go_upto_region 29 with fail
                      go_quiet (fail)
                      go_wp2_with fail
                      go_roundg (gk - 1)
                      case measure => have := HNK2.out; omega
                      case rel => exact ⟨n + 1, by have := HNK2.out; omega, by go_num, K17.drewN _⟩
                    · have hz2 : ((z1 : Int) != 2) = true := by simp; omega
                      have h4 := HQ4.out hz
                      subst h4
                      have m4 : ((z4 : Int) != (z4 : Int)) = false := by simp
                      clear hz m1
                      go_upto_region 29 with fail
                      go_quiet (fail)
                      go_wp2_with fail
                      go_roundg (gk - 1)
                      case measure => have := HNK2.out; omega
                      case rel => exact ⟨n + 1, by have := HNK2.out; omega, by go_num, K17.drewN _⟩
                · have i2 : ¬ (n : Int) < 32 := by omega
                  have HWz := Hid.mk (HWy.out.keep ky)
                  go_wp2_with fail
                  go_roundg (g1 - 1)
                  case measure => have := HK.out; omega
                  case rel => exact ⟨k + 1, f12, by have := HK.out; omega, by go_num, by rw [RS.out]; exact HWz.out, kzy.trans ky⟩
      · have i1 : ¬ (k : Int) < ss.length := by omega
        clear W_
        go_wp2_with fail
        go_ret
        exact ⟨rfl, k1.trans kw⟩
end Go.Proofs.Qxb6500767a
