/- OpenGivesTheLeastFreeHandle: the walk. -/
import Derived.Test.Qxb6500767aIe
namespace Go.Proofs.Qxb6500767a
open Go.RowKit Go.Qm
set_option linter.unusedVariables false
set_option linter.unusedSimpArgs false
attribute [local go_sem ↓] Go.wp_at_zero Go.wp_at_succ
set_option maxRecDepth 6000 in
set_option maxHeartbeats 16000000 in
theorem least_c (v : Value) (ss : List OpV) (w : World) (h : Script w v ss) : Calls Try.prog 7 #[v] w fun e w' => e = .returned (.bool true) ∧ Keep w w' := by
  have SM := small_c v ss w h
  obtain ⟨av, cv, rfl, hac, hcm, hca⟩ := h
  unfold maxLen at hcm
  go_enter Try.func7, Try.ntmps7
  go_wp2_with fail
  refine SM.mono ?_
  rintro e w1 ⟨⟨b, rfl, hsm⟩, k1⟩
  cases b with
  | false =>
    go_wp2_with fail
    go_ret
    exact ⟨rfl, k1⟩
  | true =>
    obtain ⟨hlen, hnm⟩ := hsm rfl
    have HNM := Hid.mk hnm
    have HCA := Hid.mk hca
    clear hsm hnm hca SM
    go_wp2_with fail
    refine (newWorld_c w1).mono ?_
    rintro e w2 ⟨gw, gf, gt, fp, rfl, W2, k2, hgw⟩
    have HW2 := Hid.mk W2
    clear W2
    go_wp2_with fail
    go_loopg [4] ss.length (fun gk iv wr => ∃ (k : Nat) (fp : Nat → Prop), k + gk = ss.length ∧ iv = .int .i64 k ∧ WW w1.heap.size fp wr gw gf gt (runS ss k) ∧ Keep w1 wr)
    case atStart => exact ⟨0, fp, by omega, rfl, HW2.out, k2⟩
    case round =>
      clear HW2
      obtain ⟨k, f1, hk, rfl, W_, kw⟩ := hrel
      obtain ⟨g1, hg1⟩ : ∃ g1, g1 = gk := ⟨_, rfl⟩
      subst hg1
      have HK := Hid.mk hk
      clear hk
      by_cases hlt : k < ss.length
      · have i1 : (k : Int) < ss.length := by omega
        have i0 : (0 : Int) ≤ k := by omega
        obtain ⟨b, o, rfl, hop⟩ := HCA.out k hlt
        have hnk := HNM.out ss[k] (List.getElem_mem hlt)
        have RS : Hid (runS ss (k + 1) = (playF (runS ss k) ss[k]).2) := Hid.mk (runS_succ hlt)
        have si := run_si ss k (by omega)
        have hhl := si.h.len
        have hu32 : (playF (runS ss k) ss[k]).2.u < 2 ^ 32 := (play_si si ss[k]).h.lt
        have PC := fun f W (hW : WW w1.heap.size f W gw gf gt (runS ss k)) => play_c ss[k] hW si (by omega) (by omega) (by omega) (by omega)
        have HX := Hid.mk (fun W (hk : Keep w1 W) => hop.keep (k1.trans hk))
        have hlaw := @open_law (runS ss k) ss[k]
        have VC := views_c W_
        have HW := Hid.mk W_
        generalize runS ss k = S at *
        generalize ss[k] = op at *
        unfold PlayP at PC
        generalize playF S op = P at *
        obtain ⟨⟨er, nn, dd, sa, pg⟩, S'⟩ := P
        simp only at PC hlaw RS hu32
        obtain ⟨okd, oh, ofl, omo, on, oo, owh, opp, op2, od⟩ := op
        unfold opC ansC at PC
        simp only at PC hlaw hnk
        have hV : ∀ n (hn : n < 32), (viewsF S.u S.hs)[n]? = some (lookF S.u S.hs (n : Nat)) := fun n hn => viewsF_get hn
        have hVl := viewsF_length S.u S.hs
        have HV := Hid.mk hV
        have HOV := Hid.mk (fun (h : Nat) (hh : h < 32) (x : Hd) => open_views (u := S.u) (hs := S.hs) hh hhl x)
        generalize viewsF S.u S.hs = V at *
        have hsz : ((V.flatMap vwC).toArray).size = 192 := by rw [List.size_toArray, vw_len, hVl]
        have HVL := Hid.mk hVl
        have HPC := Hid.mk PC
        have HLW := Hid.mk hlaw
        have HU := Hid.mk hu32
        clear hop si hhl hV hVl PC hlaw hu32 W_ hnk
        go_wp2_with fail
        refine VC.mono ?_
        rintro e w4 ⟨rfl, k4⟩
        go_wp2_with (refine wpList_store_row (by rfl) 49 (.tmp 5) (.tmp 21) (by rfl) w4.heap.size (V.flatMap vwC).toArray (by rfl) (by rfl) 49 Try.zeroCells49 (heap_alloc_new w4 _) (by rw [hsz]; exact s49) (by rw [hsz]; kernel_rfl) (vw_ones _) ?_)
        have A5 : Arr ((w4.alloc (.cells Try.zeroCells49 49)).setRow w4.heap.size (V.flatMap vwC).toArray) w4.heap.size 49 (V.flatMap vwC) := by
          rw [zero49]; exact (Arr.new w4 49 _).row _
        have k5 : Keep w4 ((w4.alloc (.cells Try.zeroCells49 49)).setRow w4.heap.size (V.flatMap vwC).toArray) := ((Keep.refl w4).alloc _).setRow (Nat.le_refl _) _
        have n5 : ¬ fpV f1 gf w4.heap.size := fun a => by have := (HW.out.v.keep k4).flt a; omega
        generalize (w4.alloc (.cells Try.zeroCells49 49)).setRow w4.heap.size (V.flatMap vwC).toArray = w5 at *
        generalize w4.heap.size = gT at *
        have HA5 := Hid.mk A5
        have HN5 := Hid.mk n5
        have HW5 := Hid.mk (HW.out.keep (k4.trans k5))
        have k6 := kw.trans (k4.trans k5)
        clear A5 n5 VC hsz k4 k5 HW kw
        go_loopg [6] 32 (fun gk lv wr => ∃ (L : Nat), L + gk = 32 ∧ lv = .int .i64 L ∧ (∀ i, i < L → S.u.testBit i = true) ∧ wr = w5)
        case atStart => exact ⟨0, by omega, rfl, fun i hi => by omega, rfl⟩
        case round =>
          obtain ⟨L, hL, rfl, hall, rfl⟩ := hrel
          have HL := Hid.mk hL
          have HALL := Hid.mk hall
          have l0 : (0 : Int) ≤ L := by omega
          have hL32 : L ≤ 32 := by omega
          have HL32 := Hid.mk hL32
          have l32 : (L : Int) ≤ 32 := by omega
          obtain ⟨tb, htb⟩ : ∃ tb, tb = (decide (L < 32) && S.u.testBit L) := ⟨_, rfl⟩
          have HTB := Hid.mk htb
          clear hall hL htb hL32
          go_upto_region 9 with fail
          go_cut [29] from 22 to 28 (fun tv wx => tv = .bool tb ∧ wx = wr)
          case first =>
            by_cases hl : L < 32
            · have hvn : L < V.length := by rw [HVL.out]; exact hl
              obtain ⟨c0, -⟩ := HA5.out.vget hvn
              have hx := HV.out L hl
              rw [List.getElem?_eq_getElem hvn] at hx
              have hx2 := Option.some.inj hx
              have hb : V[L].opn = S.u.testBit L := by rw [hx2, look_n _ _ hl]; cases S.u.testBit L <;> rfl
              rw [hb] at c0
              have HT2 : Hid (tb = S.u.testBit L) := Hid.mk (by rw [HTB.out, decide_eq_true hl]; rfl)
              have l1 : (L : Int) < 32 := by omega
              clear hx hx2 hb hvn
              go_wp2_with fail
              go_meet
              case rel => rw [HT2.out]; exact ⟨rfl, rfl⟩
            · have l1 : ¬ (L : Int) < 32 := by omega
              have HT2 : Hid (tb = false) := Hid.mk (by rw [HTB.out, decide_eq_false hl]; rfl)
              go_wp2_with fail
              go_meet
              case rel => rw [HT2.out]; exact ⟨rfl, rfl⟩
          case rest =>
            obtain ⟨rfl, rfl⟩ := hcut
            cases tb with
            | true =>
              go_wp2_with fail
              go_roundg (gk - 1)
              case measure =>
                have := HTB.out
                have h1 : L < 32 := by
                  rcases Nat.lt_or_ge L 32 with a | a
                  · exact a
                  · rw [decide_eq_false (by omega)] at this; simp at this
                have := HL.out; omega
              case rel =>
                have := HTB.out
                have h1 : L < 32 ∧ S.u.testBit L = true := by
                  have := this.symm
                  simpa using this
                refine ⟨L + 1, by have := HL.out; omega, by go_num, fun i hi => ?_, rfl⟩
                by_cases e : i = L
                · rw [e]; exact h1.2
                · exact HALL.out i (by omega)
            | false =>
              have hLN : leastN S.u = L := least_of HALL.out HL32.out (fun hl => by
                have := HTB.out
                rw [decide_eq_true hl] at this
                simpa using this.symm)
              have HLN := Hid.mk hLN
              clear hLN
              have X2 := HX.out _ k6
              have y0 := X2.c0
              have y1 := X2.c1
              have y2 := X2.c2
              have y3 := X2.c3
              have y4 := X2.c4
              have y5 := X2.c5
              have y6 := X2.c6
              have y7 := X2.c7
              have y8 := X2.c8
              have y9 := X2.c9
              simp only at y0 y1 y2 y3 y4 y5 y6 y7 y8 y9
              have PC := HPC.out _ _ HW5.out
              clear X2 HPC HALL HTB HL
              go_wp2_with fail
              refine PC.mono ?_
              rintro e w6 ⟨pv, f6, rfl, dv, W6, st6⟩
              obtain ⟨pa, pcp, rfl, -, -⟩ := dv.slice
              have HA6 := Hid.mk (st6.1.arr HN5.out HA5.out)
              have HW6 := Hid.mk W6
              have k7 := Stp.keepB k6 HW5.out (Nat.le_refl _) st6
              have OC := fun W (kk : Keep w6 W) => openCount_c gf gt S'.u S'.hs W (W6.v.fs.keep kk)
              have hpc := pc_le 32 S'.u HU.out
              generalize pc S'.u = pcn at *
              have hpc2 : ¬ ((pcn : Int) > 32) := by omega
              have HXk := Hid.mk (fun W (kk : Keep w6 W) => (HX.out W (k7.trans kk)).c0)
              simp only at HXk
              have HAll : Hid (∀ W, Keep w6 W → W.cell? ⟨gw, 1, none⟩ = some (.pointer (some ⟨gf, 0, none⟩))) := Hid.mk (fun W kk => (W6.keep kk).arr.cell 1)
              clear PC dv W6 st6 y0 y1 y2 y3 y4 y5 y6 y7 y8 y9 HX HN5 HA5 HW5 hpc
              generalize pg.length = pgl at *
              obtain ⟨sa0, sa1, sa2, sa3, sa4⟩ := sa
              simp only
              go_upto_region 12 with fail
              have K7 := (Keep.refl w6).alloc (.cells #[.int .i64 er, .int .i64 nn, .string ⟨dd.toArray⟩, .int .i64 (sa0 : Nat), .int .i64 (sa1 : Nat), .int .i64 sa2, .int .i64 (sa3 : Nat), .int .i64 (sa4 : Nat), .slice pa pgl pcp] 34)
              have A7 : Arr (w6.alloc (.cells #[.int .i64 er, .int .i64 nn, .string ⟨dd.toArray⟩, .int .i64 (sa0 : Nat), .int .i64 (sa1 : Nat), .int .i64 sa2, .int .i64 (sa3 : Nat), .int .i64 (sa4 : Nat), .slice pa pgl pcp] 34)) w6.heap.size 34 [.int .i64 er, .int .i64 nn, .string ⟨dd.toArray⟩, .int .i64 (sa0 : Nat), .int .i64 (sa1 : Nat), .int .i64 sa2, .int .i64 (sa3 : Nat), .int .i64 (sa4 : Nat), .slice pa pgl pcp] := Arr.new w6 34 [.int .i64 er, .int .i64 nn, .string ⟨dd.toArray⟩, .int .i64 (sa0 : Nat), .int .i64 (sa1 : Nat), .int .i64 sa2, .int .i64 (sa3 : Nat), .int .i64 (sa4 : Nat), .slice pa pgl pcp]
              have n7 : ¬ fpV f6 gf w6.heap.size := fun a => by have := HW6.out.v.flt a; omega
              have hne7 : gT ≠ w6.heap.size := by have := HA6.out.lt; omega
              generalize w6.alloc (.cells #[.int .i64 er, .int .i64 nn, .string ⟨dd.toArray⟩, .int .i64 (sa0 : Nat), .int .i64 (sa1 : Nat), .int .i64 sa2, .int .i64 (sa3 : Nat), .int .i64 (sa4 : Nat), .slice pa pgl pcp] 34) = w7 at *
              generalize w6.heap.size = gA at *
              have a0 : w7.cell? ⟨gA, 0, none⟩ = some (.int .i64 er) := A7.cell 0
              have a1 : w7.cell? ⟨gA, 1, none⟩ = some (.int .i64 nn) := A7.cell 1
              have p1 := HAll.out _ K7
              have y0 := HXk.out _ K7
              have HW7 := Hid.mk (HW6.out.keep K7)
              have HA7 := Hid.mk (HA6.out.keep K7)
              have HA8 := Hid.mk A7
              have k8 := k7.trans K7
              have OC7 := OC _ K7
              clear A7 OC HAll HXk HW6 HA6 k7 n7 hne7
              go_wp2_with fail
              refine OC7.mono ?_
              rintro e wo ⟨rfl, rfl⟩
              by_cases hk1 : okd = 1
              · subst hk1
                obtain ⟨law1, law2, law3⟩ := HLW.out rfl
                rw [HLN.out] at law1 law2 law3
                by_cases hL : L = 32
                · subst hL
                  rcases law2 rfl with he | he
                  · subst he
                    clear law1 law2 law3
                    go_wp2_with fail
                    go_roundg (g1 - 1)
                    case measure => have := HK.out; omega
                    case rel => exact ⟨k + 1, f6, by have := HK.out; omega, by go_num, by rw [RS.out]; exact HW7.out, k8⟩
                  · subst he
                    clear law1 law2 law3
                    go_wp2_with fail
                    go_roundg (g1 - 1)
                    case measure => have := HK.out; omega
                    case rel => exact ⟨k + 1, f6, by have := HK.out; omega, by go_num, by rw [RS.out]; exact HW7.out, k8⟩
                · have z1 : ((L : Int) == 32) = false := by simp; omega
                  have z2 : (er == 3) = false := by
                    have : er ≠ 3 := fun a => hL (law1 a)
                    simpa using this
                  have z3 : (er != 3) = true := by simp only [bne, z2]; rfl
                  by_cases he0 : er = 0
                  · obtain ⟨h, nd, fl', dr, hh, hLh, hnn, hu, hhs⟩ := law3 he0
                    subst he0 hnn
                    have HLh := Hid.mk hLh
                    clear law1 law2 law3 z2 z3
                    subst hLh
                    have VC := views_c HW7.out
                    rw [hu, hhs] at VC
                    obtain ⟨ov1, ov2⟩ := HOV.out L hh ⟨nd, fl', dr, 0, []⟩
                    have hVl := viewsF_length (S.u ||| 2 ^ L) (S.hs.set L ⟨nd, fl', dr, 0, []⟩)
                    generalize viewsF (S.u ||| 2 ^ L) (S.hs.set L ⟨nd, fl', dr, 0, []⟩) = V' at *
                    have hsz : ((V'.flatMap vwC).toArray).size = 192 := by rw [List.size_toArray, vw_len, hVl]
                    have HVl := Hid.mk hVl
                    have HO1 := Hid.mk ov1
                    have HO2 := Hid.mk ov2
                    clear ov1 ov2 hVl hu hhs
                    go_wp2_with fail
                    refine VC.mono ?_
                    rintro e w8 ⟨rfl, k9⟩
                    go_upto_region 20 with (refine wpList_store_row (by rfl) 49 (.tmp 9) (.tmp 76) (by rfl) w8.heap.size (V'.flatMap vwC).toArray (by rfl) (by rfl) 49 Try.zeroCells49 (heap_alloc_new w8 _) (by rw [hsz]; exact s49) (by rw [hsz]; kernel_rfl) (vw_ones _) ?_)
                    have A9 : Arr ((w8.alloc (.cells Try.zeroCells49 49)).setRow w8.heap.size (V'.flatMap vwC).toArray) w8.heap.size 49 (V'.flatMap vwC) := by
                      rw [zero49]; exact (Arr.new w8 49 _).row _
                    have K9 : Keep wo ((w8.alloc (.cells Try.zeroCells49 49)).setRow w8.heap.size (V'.flatMap vwC).toArray) := k9.trans (((Keep.refl w8).alloc _).setRow (Nat.le_refl _) _)
                    have hne9 : gT ≠ w8.heap.size := by have := HA7.out.lt; have := k9.size; omega
                    have hge9 : w1.heap.size ≤ w8.heap.size := by have := k8.size; have := k9.size; omega
                    generalize (w8.alloc (.cells Try.zeroCells49 49)).setRow w8.heap.size (V'.flatMap vwC).toArray = w9 at *
                    have hge10 : wo.heap.size ≤ w8.heap.size := k9.size
                    generalize w8.heap.size = gT2 at *
                    have hvn : L < V.length := by rw [HVL.out]; exact hh
                    have hvn' : L < V'.length := by rw [HVl.out]; exact hh
                    have hV'L : V'[L] = ⟨true, nd, fl', dr, 0, []⟩ := by
                      have := HO1.out
                      rw [List.getElem?_eq_getElem hvn'] at this
                      exact Option.some.inj this
                    obtain ⟨c0, c1, c2, c3, c4, c5⟩ := (HA7.out.keep K9).vget hvn
                    obtain ⟨d0, d1, d2, d3, d4, d5⟩ := A9.vget hvn'
                    rw [hV'L] at d0 d1 d2 d3 d4 d5
                    have f0 := A9.frozen (L * 6)
                    have f1 := A9.frozen (L * 6 + 1)
                    have f2 := A9.frozen (L * 6 + 2)
                    have f3 := A9.frozen (L * 6 + 3)
                    have f4 := A9.frozen (L * 6 + 4)
                    have f5 := A9.frozen (L * 6 + 5)
                    have a9 := (HA8.out.keep K9).cell 1
                    simp only [List.getElem?_cons_zero, List.getElem?_cons_succ] at a9
                    have hset := HO2.out V[L] (by rw [List.getElem?_eq_getElem hvn])
                    have A10 := A9.view hvn' V[L]
                    rw [hset] at A10
                    have HK9 := Hid.mk K9
                    have HA9V := Hid.mk (HA7.out.keep K9)
                    have hs32 : V.length = 32 := HVL.out
                    generalize V[L] = X at *
                    obtain ⟨x0, x1, x2, x3, x4, x5⟩ := X
                    simp only at c0 c1 c2 c3 c4 c5 d0 d1 d2 d3 d4 d5 A10
                    have F3 := (((((((Fr.refl (fun q => q = gT2) w9).setCell (p := ⟨gT2, L * 6, none⟩) (Or.inl rfl) (.bool x0)).setCell (p := ⟨gT2, L * 6 + 1, none⟩) (Or.inl rfl) (.int .i64 (x1 : Nat))).setCell (p := ⟨gT2, L * 6 + 2, none⟩) (Or.inl rfl) (.int .i64 x2)).setCell (p := ⟨gT2, L * 6 + 3, none⟩) (Or.inl rfl) (.bool x3)).setCell (p := ⟨gT2, L * 6 + 4, none⟩) (Or.inl rfl) (.int .i64 (x4 : Nat))).setCell (p := ⟨gT2, L * 6 + 5, none⟩) (Or.inl rfl) (str x5))
                    have HB10 := Hid.mk (F3.arr hne9 HA9V.out)
                    have HK10 := Hid.mk (((((((HK9.out.setCell (p := ⟨gT2, L * 6, none⟩) hge10 (.bool x0)).setCell (p := ⟨gT2, L * 6 + 1, none⟩) hge10 (.int .i64 (x1 : Nat))).setCell (p := ⟨gT2, L * 6 + 2, none⟩) hge10 (.int .i64 x2)).setCell (p := ⟨gT2, L * 6 + 3, none⟩) hge10 (.bool x3)).setCell (p := ⟨gT2, L * 6 + 4, none⟩) hge10 (.int .i64 (x4 : Nat))).setCell (p := ⟨gT2, L * 6 + 5, none⟩) hge10 (str x5)))
                    have HA10 := Hid.mk A10
                    have h3 : (L : Int) < 32 := by omega
                    have HHH := Hid.mk hh
                    clear A9 K9 A10 F3 hset hV'L hvn hvn' hh hL VC a0 a1 p1 y0 HO1 HO2 hsz k9 OC7
                    have hszV : ((V.flatMap vwC).toArray).size = 192 := by rw [List.size_toArray, vw_len, hs32]
                    go_upto_region 23 with fail
                    refine wp_region_lit ?_
                    refine wpList_load_row (by rfl) 49 (.tmp 9) (by rfl) gT2 (by rfl) 49 (V.flatMap vwC).toArray (0, 0) _ HA10.out Try.underlying49 rfl (by rw [hszV]; exact s49) ?_
                    refine wpList_load_row (by rfl) 49 (.tmp 5) (by rfl) gT (by rfl) 49 (V.flatMap vwC).toArray (0, 0) _ HB10.out Try.underlying49 rfl (by rw [hszV]; exact s49) ?_
                    refine wpList_neq49 (by rfl) (.tmp 107) (.tmp 108) (by rfl) hs32 (by rfl) (by rfl) ?_
                    clear c0 c1 c2 c3 c4 c5 d0 d1 d2 d3 d4 d5 f0 f1 f2 f3 f4 f5 a9
                    simp only [Act.put, List.setIfInBounds_toArray, List.set_cons_zero, List.set_cons_succ]
                    have HKK : Hid (Keep wo _) := Hid.mk HK10.out
                    have HWW := Hid.mk (HW7.out.keep HK10.out)
                    clear HA10 HB10 HK10
                    generalize (((((w9.setCell ⟨gT2, L * 6, none⟩ (.bool x0)).setCell ⟨gT2, L * 6 + 1, none⟩ (.int .i64 (x1 : Nat))).setCell ⟨gT2, L * 6 + 2, none⟩ (.int .i64 x2)).setCell ⟨gT2, L * 6 + 3, none⟩ (.bool x3)).setCell ⟨gT2, L * 6 + 4, none⟩ (.int .i64 (x4 : Nat))).setCell ⟨gT2, L * 6 + 5, none⟩ (str x5) = wz at *
                    go_wp2_with fail
                    go_roundg (g1 - 1)
                    case measure => have := HK.out; omega
                    case rel => exact ⟨k + 1, f6, by have := HK.out; omega, by go_num, by rw [RS.out]; exact HWW.out, k8.trans HKK.out⟩
                  · have z4 : (er != 0) = true := by simpa using he0
                    clear law1 law2 law3 he0
                    go_wp2_with fail
                    go_roundg (g1 - 1)
                    case measure => have := HK.out; omega
                    case rel => exact ⟨k + 1, f6, by have := HK.out; omega, by go_num, by rw [RS.out]; exact HW7.out, k8⟩
              · have z1 : (okd != 1) = true := by simpa using hk1
                clear hk1
                go_wp2_with fail
                go_roundg (g1 - 1)
                case measure => have := HK.out; omega
                case rel => exact ⟨k + 1, f6, by have := HK.out; omega, by go_num, by rw [RS.out]; exact HW7.out, k8⟩
      · have i1 : ¬ (k : Int) < ss.length := by omega
        clear W_
        go_wp2_with fail
        go_ret
        exact ⟨rfl, k1.trans kw⟩
end Go.Proofs.Qxb6500767a
