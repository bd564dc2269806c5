/- RefusedStepsChangeNothing: the walk, from what Dump answers. -/
import Derived.Test.Qxb6500767aIg
import Derived.Test.Qxb6500767aHa
import Derived.Test.Qxb6500767aJd
import Derived.Test.Qxb6500767aJh
import Derived.BigQuiet
namespace Go.Proofs.Qxb6500767a
open Go.RowKit Go.Qm
set_option linter.unusedVariables false
set_option linter.unusedSimpArgs false
attribute [local go_sem ↓] Go.wp_at_zero Go.wp_at_succ
/-- What Dump answers: a function of the tree. -/
def DumpSpec : Prop := ∀ (gt : Nat) (T : List Nd) (w : World), TR w gt T → DB T → Calls Try.prog 17 #[.pointer (some ⟨gt, 0, none⟩)] w fun e w' => e = .returned (str (dumpF T)) ∧ Keep w w'
set_option maxRecDepth 6000 in
set_option maxHeartbeats 16000000 in
theorem refused_c (DS : DumpSpec) (v : Value) (ss : List OpV) (w : World) (h : Script w v ss) (hr : ∀ s ∈ ss, -9223372036854775808 ≤ s.mode ∧ s.mode ≤ 9223372036854775807) : Calls Try.prog 4 #[v] w fun e w' => e = .returned (.bool true) ∧ Keep w w' := by
  have SM := small_c v ss w h
  have HSPM := Hid.mk (run_spm hr)
  have HDS := Hid.mk DS
  clear hr DS
  obtain ⟨av, cv, rfl, hac, hcm, hca⟩ := h
  unfold maxLen at hcm
  go_enter Try.func4, Try.ntmps4
  go_wp2_with fail
  refine SM.mono ?_
  rintro e w1 ⟨⟨b, rfl, hsm⟩, k1⟩
  cases b with
  | false =>
    go_wp2_with fail
    go_ret
    exact ⟨rfl, k1⟩
  | true =>
    obtain ⟨hlen, hnm⟩ := hsm rfl
    have HNM := Hid.mk hnm
    have HCA := Hid.mk hca
    clear hsm hnm hca SM
    go_wp2_with fail
    refine (newWorld_c w1).mono ?_
    rintro e w2 ⟨gw, gf, gt, fp, rfl, W2, k2, hgw⟩
    have HW2 := Hid.mk W2
    clear W2
    go_wp2_with fail
    go_loopg [4] ss.length (fun gk iv wr => ∃ (k : Nat) (fp : Nat → Prop), k + gk = ss.length ∧ iv = .int .i64 k ∧ WW w1.heap.size fp wr gw gf gt (runS ss k) ∧ Keep w1 wr)
    case atStart => exact ⟨0, fp, by omega, rfl, HW2.out, k2⟩
    case round =>
      clear HW2
      obtain ⟨k, f1, hk, rfl, W_, kw⟩ := hrel
      obtain ⟨g1, hg1⟩ : ∃ g1, g1 = gk := ⟨_, rfl⟩
      subst hg1
      have HK := Hid.mk hk
      clear hk
      by_cases hlt : k < ss.length
      · have i1 : (k : Int) < ss.length := by omega
        have i0 : (0 : Int) ≤ k := by omega
        obtain ⟨b, o, rfl, hop⟩ := HCA.out k hlt
        have hnk := HNM.out ss[k] (List.getElem_mem hlt)
        have RS : Hid (runS ss (k + 1) = (playF (runS ss k) ss[k]).2) := Hid.mk (runS_succ hlt)
        have si := run_si ss k (by omega)
        have hhl := si.h.len
        have hu32 : (playF (runS ss k) ss[k]).2.u < 2 ^ 32 := (play_si si ss[k]).h.lt
        have PC := fun f W (hW : WW w1.heap.size f W gw gf gt (runS ss k)) => play_c ss[k] hW si (by omega) (by omega) (by omega) (by omega)
        have HX := Hid.mk (fun W (hk : Keep w1 W) => hop.keep (k1.trans hk))
        have hlaw := @refused_same (runS ss k) ss[k]
        have hdb := db_of si (by omega) (HSPM.out k (by omega))
        have HW := Hid.mk W_
        have HDC := Hid.mk (fun W (kk : Keep wr W) => HDS.out gt (runS ss k).T W (W_.v.tree.tr.keep kk) hdb)
        have HVC := Hid.mk (fun W (kk : Keep wr W) => views_c (W_.keep kk))
        have HFN := Hid.mk (fun W (kk : Keep wr W) => freeNodes_c gt (runS ss k).T W (W_.v.tree.tr.keep kk) (by have := hdb.len; omega))
        have HFB := Hid.mk (fun W (kk : Keep wr W) => freeBlocks_c gt (runS ss k).T W (W_.v.tree.tr.keep kk) (by have := hdb.len; omega) (by have := si.t.ub; omega))
        have HDCg := Hid.mk (fun W (h : TR W gt (runS ss k).T) => HDS.out gt (runS ss k).T W h hdb)
        have HFNg := Hid.mk (fun W (h : TR W gt (runS ss k).T) => freeNodes_c gt (runS ss k).T W h (by have := hdb.len; omega))
        have HFBg := Hid.mk (fun W (h : TR W gt (runS ss k).T) => freeBlocks_c gt (runS ss k).T W h (by have := hdb.len; omega) (by have := si.t.ub; omega))
        generalize dumpF (runS ss k).T = DM at *
        generalize hS : runS ss k = S at *
        generalize ss[k] = op at *
        unfold PlayP at PC
        generalize playF S op = P at *
        obtain ⟨⟨er, nn, dd, sa, pg⟩, S'⟩ := P
        simp only at PC hlaw RS hu32
        obtain ⟨okd, oh, ofl, omo, on, oo, owh, opp, op2, od⟩ := op
        unfold opC ansC at PC
        simp only at PC hlaw hnk
        have hVl := viewsF_length S.u S.hs
        have HVS : Hid (S' = S → viewsF S'.u S'.hs = viewsF S.u S.hs) := Hid.mk (fun e => by rw [e])
        obtain ⟨V, hVe⟩ : ∃ V, V = viewsF S.u S.hs := ⟨_, rfl⟩
        rw [← hVe] at hVl HVC
        have hsz : ((V.flatMap vwC).toArray).size = 192 := by rw [List.size_toArray, vw_len, hVl]
        have HVL := Hid.mk hVl
        have HPC := Hid.mk PC
        have HLW := Hid.mk hlaw
        have p0 : wr.cell? ⟨gw, 0, none⟩ = some (.pointer (some ⟨gt, 0, none⟩)) := W_.arr.cell 0
        have HP0 := Hid.mk (fun W (kk : Keep wr W) => (W_.keep kk).arr.cell 0)
        generalize hnf : (256 - (usedN S.T : Nat) : Int) = nf at *
        generalize hbf : (512 - (usedB S.T : Nat) : Int) = bf at *
        have HSI := Hid.mk si
        have HDBx := Hid.mk hdb
        have HVE := Hid.mk hVe
        clear hop si hhl hVl PC hlaw hu32 W_ hnk hdb hVe hS hnf hbf
        obtain ⟨w0, hw0⟩ : ∃ w0, w0 = wr := ⟨_, rfl⟩
        subst hw0
        go_wp2_with fail
        refine (HDC.out _ (Keep.refl _)).mono ?_
        rintro e w3 ⟨rfl, k3⟩
        go_wp2_with fail
        refine (HVC.out _ k3).mono ?_
        rintro e w4 ⟨rfl, k4⟩
        go_upto_region 8 with (refine wpList_store_row (by rfl) 49 (.tmp 6) (.tmp 25) (by rfl) w4.heap.size (V.flatMap vwC).toArray (by rfl) (by rfl) 49 Try.zeroCells49 (heap_alloc_new w4 _) (by rw [hsz]; exact s49) (by rw [hsz]; kernel_rfl) (vw_ones _) ?_)
        have A5 : Arr ((w4.alloc (.cells Try.zeroCells49 49)).setRow w4.heap.size (V.flatMap vwC).toArray) w4.heap.size 49 (V.flatMap vwC) := by
          rw [zero49]; exact (Arr.new w4 49 _).row _
        have k5 : Keep w4 ((w4.alloc (.cells Try.zeroCells49 49)).setRow w4.heap.size (V.flatMap vwC).toArray) := ((Keep.refl w4).alloc _).setRow (Nat.le_refl _) _
        have n5 : ¬ fpV f1 gf w4.heap.size := fun a => by have := (HW.out.v.keep (k3.trans k4)).flt a; omega
        generalize (w4.alloc (.cells Try.zeroCells49 49)).setRow w4.heap.size (V.flatMap vwC).toArray = w5 at *
        generalize w4.heap.size = gT at *
        have HA5 := Hid.mk A5
        have HN5 := Hid.mk n5
        have k05 : Keep w0 w5 := k3.trans (k4.trans k5)
        have HW5 := Hid.mk (HW.out.keep k05)
        have k6 := kw.trans k05
        have q0 : w5.cell? ⟨gw, 0, none⟩ = some (.pointer (some ⟨gt, 0, none⟩)) := HP0.out _ k05
        clear A5 n5 hsz k3 k4 k5 HW kw p0
        simp only [Act.put, List.setIfInBounds_toArray, List.set_cons_zero, List.set_cons_succ]
        go_cut [7, 8] from 26 to 35 (fun nv bv wx => nv = .int .i64 nf ∧ bv = .int .i64 bf ∧ Keep w5 wx)
        case first =>
          go_quiet (first | (go_at_call 19; with_reducible refine Calls.quiet_of_same (HFN.out _ (by first | exact k05 | exact k05.drew | exact k05.drewN _))) | (go_at_call 20; with_reducible refine Calls.quiet_of_same (HFB.out _ (by first | exact k05 | exact k05.drew | exact k05.drewN _))))
          go_wp2_with fail
          go_meet
          case rel => exact ⟨rfl, rfl, (Keep.refl _).drewN _⟩
        case rest =>
          obtain ⟨rfl, rfl, k7⟩ := hcut
          have X2 := HX.out _ (k6.trans k7)
          have y0 := X2.c0
          have y1 := X2.c1
          have y2 := X2.c2
          have y3 := X2.c3
          have y4 := X2.c4
          have y5 := X2.c5
          have y6 := X2.c6
          have y7 := X2.c7
          have y8 := X2.c8
          have y9 := X2.c9
          simp only at y0 y1 y2 y3 y4 y5 y6 y7 y8 y9
          have PC := HPC.out _ _ (HW5.out.keep k7)
          have kq := k6.trans k7
          clear X2 HPC
          go_wp2_with fail
          refine PC.mono ?_
          rintro e w8 ⟨v, f8, rfl, dv, W8, st8⟩
          have HW8 := Hid.mk W8
          have kz := Stp.keepB kq (HW5.out.keep k7) (Nat.le_refl _) st8
          have HT8 := Hid.mk (st8.1.arr HN5.out (HA5.out.keep k7))
          clear dv W8 st8 PC y0 y1 y2 y3 y4 y5 y6 y7 y8 y9 q0 HDC HVC HFN HFB HP0 k05
          by_cases her : er = 0
          · subst her
            go_wp2_with fail
            go_roundg (g1 - 1)
            case measure => have := HK.out; omega
            case rel => exact ⟨k + 1, f8, by have := HK.out; omega, by go_num, by rw [RS.out]; exact HW8.out, kz⟩
          · have z1 : (er == 0) = false := by simpa using her
            have hSS := HLW.out her
            have VC := fun W (kk : Keep w8 W) => views_c (HW8.out.keep kk)
            rw [HVS.out hSS, ← HVE.out] at VC
            have HTr : Hid (∀ W, Keep w8 W → TR W gt S.T) := Hid.mk (fun W kk => by have := (HW8.out.keep kk).v.tree.tr; rw [hSS] at this; exact this)
            have hu49 := Try.underlying49
            have hi49 : (Try.prog.info? 49).map (·.size) = some (V.flatMap vwC).length := by rw [vw_len, HVL.out]; exact s49
            have r0 : w8.rangeAt gT 0 (V.flatMap vwC) := fun j u hu => by rw [Nat.zero_add, HT8.out.cell]; exact hu
            have g0 : w8.cell? ⟨gw, 0, none⟩ = some (.pointer (some ⟨gt, 0, none⟩)) := HW8.out.arr.cell 0
            have HR0 : Hid (∀ y, Keep w8 y → y.cell? ⟨gw, 0, none⟩ = some (.pointer (some ⟨gt, 0, none⟩)) ∧ y.rangeAt gT 0 (V.flatMap vwC)) := Hid.mk (fun y ky => ⟨ky.cell g0, fun j u hu => by rw [Nat.zero_add, (HT8.out.keep ky).cell]; exact hu⟩)
            have hnv := fun W => neq_views (V := V) HVL.out W
            have hgd := fun W => guard49 .neq (.tmp 53) (.tmp 54) (V.flatMap vwC).toArray (V.flatMap vwC).toArray W
            have HVC8 := Hid.mk VC
            clear VC hSS her
            go_upto_region 10 with fail
            go_cut [56] from 44 to 55 (fun tv wx => tv = .bool false ∧ Keep w8 wx)
            case first =>
              go_region_held3 (fun W => W.cell? ⟨gw, 0, none⟩ = some (.pointer (some ⟨gt, 0, none⟩)) ∧ W.rangeAt gT 0 (V.flatMap vwC))
                (with_reducible first | assumption | exact ⟨g0, r0⟩ | exact HR0.out _ (Keep.refl w8).drew | exact HR0.out _ Q1 | exact HR0.out _ Q2)
                (first
                  | (go_at_call 17; refine (HDCg.out _ (HTr.out _ (Keep.refl w8).drew)).mono ?_; rintro x y ⟨rfl, qq⟩; have Q1 : Keep w8 y := (Keep.refl w8).drew.trans qq)
                  | (go_at_call 18; refine (HVC8.out _ Q1).mono ?_; rintro x y2 ⟨rfl, qq⟩; have Q2 : Keep w8 y2 := Q1.trans qq))
              go_wp2_with fail
              go_meet
              case rel => exact ⟨rfl, Q2⟩
            case rest =>
              obtain ⟨rfl, k9⟩ := hcut
              replace g0 := k9.cell g0
              have FN := HFNg.out _ (HTr.out _ k9)
              have FB := HFBg.out _ (HTr.out _ k9)
              have z2 : (nf != nf) = false := by simp
              have z3 : (bf != bf) = false := by simp
              have HW9 := Hid.mk (HW8.out.keep k9)
              clear r0 HR0 hnv hgd hi49 hu49 HVC8 HDCg HFNg HFBg HTr HT8
              go_wp2_with fail
              refine FN.mono ?_
              rintro e wn ⟨rfl, rfl⟩
              go_wp2_with fail
              refine FB.mono ?_
              rintro e wm ⟨rfl, rfl⟩
              go_wp2_with fail
              go_roundg (g1 - 1)
              case measure => have := HK.out; omega
              case rel => exact ⟨k + 1, f8, by have := HK.out; omega, by go_num, by rw [RS.out]; exact HW9.out, kz.trans k9⟩
      · have i1 : ¬ (k : Int) < ss.length := by omega
        clear W_
        go_wp2_with fail
        go_ret
        exact ⟨rfl, k1.trans kw⟩
end Go.Proofs.Qxb6500767a
