/- ReaddirPagesTile: the walk. -/
import Derived.Test.Qxb6500767aHe
import Derived.Deep.LoopGhost
import Derived.BigQuiet
namespace Go.Proofs.Qxb6500767a
open Go.RowKit Go.Qm
set_option linter.unusedVariables false
set_option linter.unusedSimpArgs false
attribute [local go_sem ↓] Go.wp_at_zero Go.wp_at_succ
set_option maxRecDepth 6000 in
set_option maxHeartbeats 16000000 in
theorem tile_c (v : Value) (ss : List OpV) (w : World) (h : Script w v ss) : Calls Try.prog 9 #[v] w fun e w' => e = .returned (.bool true) ∧ Keep w w' := by
  have SM := small_c v ss w h
  obtain ⟨av, cv, rfl, hac, hcm, hca⟩ := h
  unfold maxLen at hcm
  go_enter Try.func9, Try.ntmps9
  go_wp2_with fail
  refine SM.mono ?_
  rintro e w1 ⟨⟨b, rfl, hsm⟩, k1⟩
  cases b with
  | false =>
    go_wp2_with fail
    go_ret
    exact ⟨rfl, k1⟩
  | true =>
    obtain ⟨hlen, hnm⟩ := hsm rfl
    have HNM := Hid.mk hnm
    have HCA := Hid.mk hca
    clear hsm hnm hca SM
    go_wp2_with fail
    refine (newWorld_c w1).mono ?_
    rintro e w2 ⟨gw, gf, gt, fp, rfl, W2, k2, hgw⟩
    have HW2 := Hid.mk W2
    clear W2
    go_wp2_with fail
    go_loopg [4] ss.length (fun gk iv wr => ∃ (k : Nat) (fp : Nat → Prop), k + gk = ss.length ∧ iv = .int .i64 k ∧ WW w1.heap.size fp wr gw gf gt (runS ss k) ∧ Keep w1 wr)
    case atStart => exact ⟨0, fp, by omega, rfl, HW2.out, k2⟩
    case round =>
      obtain ⟨k, f1, hk, rfl, W_, kw⟩ := hrel
      have HK := Hid.mk hk
      clear hk
      by_cases hlt : k < ss.length
      · have i1 : (k : Int) < ss.length := by omega
        obtain ⟨b, o, rfl, hop⟩ := HCA.out k hlt
        have hnk := HNM.out ss[k] (List.getElem_mem hlt)
        have RS : Hid (runS ss (k + 1) = (playF (runS ss k) ss[k]).2) := Hid.mk (runS_succ hlt)
        have si := run_si ss k (by omega)
        have PC := play_c ss[k] W_ si (by omega) (by omega) (by omega) (by omega)
        have X := hop.keep (k1.trans kw)
        unfold PlayP at PC
        generalize runS ss k = S at *
        generalize ss[k] = op at *
        generalize playF S op = P at *
        obtain ⟨A, S'⟩ := P
        simp only at PC RS
        obtain ⟨okd, oh, ofl, omo, on, oo, owh, opp, op2, od⟩ := op
        unfold opC at PC
        simp only at PC
        have y0 := X.c0
        have y1 := X.c1
        have y2 := X.c2
        have y3 := X.c3
        have y4 := X.c4
        have y5 := X.c5
        have y6 := X.c6
        have y7 := X.c7
        have y8 := X.c8
        have y9 := X.c9
        simp only at y0 y1 y2 y3 y4 y5 y6 y7 y8 y9
        have HW := Hid.mk W_
        clear hop X W_ si hnk HW2
        go_wp2_with fail
        refine PC.mono ?_
        rintro e w3 ⟨v, fp', rfl, dv, W3, st⟩
        have HRn : Hid (∀ x, x = S' → WW w1.heap.size fp' w3 gw gf gt x) := Hid.mk (fun x hx => by rw [hx]; exact W3)
        have kz := Stp.keepB kw HW.out (Nat.le_refl _) st
        clear dv W3 st PC
        go_wp2_with fail
        go_roundg (gk - 1)
        case measure => have := HK.out; omega
        case rel => exact ⟨k + 1, fp', by have := HK.out; omega, by go_num, HRn.out _ RS.out, kz⟩
      · have i1 : ¬ (k : Int) < ss.length := by omega
        have hkl : k = ss.length := by have := HK.out; omega
        have si := run_si ss k (by omega)
        have CA := closeAll_c W_.v si
        have p1 : wr.cell? ⟨gw, 1, none⟩ = some (.pointer (some ⟨gf, 0, none⟩)) := W_.arr.cell 1
        have HSI := Hid.mk (clN_si si 32)
        rw [hkl] at HSI
        rw [hkl] at CA
        have HW := Hid.mk W_
        clear W_ si HW2 hlt HK hkl
        go_wp2_with fail
        refine CA.mono ?_
        rintro e w3 ⟨fp3, rfl, V3, st3⟩
        have HW3 := Hid.mk (HW.out.stp V3 st3)
        have k3 := Stp.keepB kw HW.out (Nat.le_refl _) st3
        clear V3 st3 CA HW p1 kw i1
        generalize clN (runS ss ss.length) 32 = s0 at *
        go_wp2_with fail
        go_loopg [5] (ss.length + 1) (fun gk iv wr => ∃ (z : Int) (fp : Nat → Prop) (s : Stt), z + gk = ss.length ∧ -1 ≤ z ∧ iv = .int .i64 z ∧ WW w1.heap.size fp wr gw gf gt s ∧ SI ss.length s.u s.hs s.T ∧ Keep w1 wr)
        case atStart => exact ⟨-1, fp3, s0, by omega, by omega, rfl, HW3.out, HSI.out, k3⟩
        case round =>
          clear HW3 HSI k3
          obtain ⟨z, f4, s, hk, hz1, rfl, W_, si, kw⟩ := hrel
          obtain ⟨g2, hg2⟩ : ∃ g2, g2 = gk := ⟨_, rfl⟩
          subst hg2
          have HK := Hid.mk hk
          clear hk
          by_cases hlt : z < ss.length
          · obtain ⟨path, hpl, hpath⟩ : ∃ path : List UInt8, path.length ≤ 100000 ∧ ((z = -1 ∧ path = [47]) ∨ ∃ (j : Nat) (hj : j < ss.length), z = (j : Int) ∧ path = ss[j].path) := by
              by_cases hz : z = -1
              · exact ⟨[47], by decide, Or.inl ⟨hz, rfl⟩⟩
              · have hj : z.toNat < ss.length := by omega
                refine ⟨ss[z.toNat].path, ?_, Or.inr ⟨z.toNat, hj, by omega, rfl⟩⟩
                have := (HNM.out _ (List.getElem_mem hj)).1; omega
            have HP := Hid.mk hpath
            have OC := fun W (k : Keep wr W) => vOpen_c w1.heap.size gf gt s.u ss.length ss.length ss.length path 65 0 f4 s.hs s.T W (W_.v.keep k) (si.lim (by omega)) si.t hpl
            have HSI := Hid.mk si
            have HO65 := Hid.mk (open65 si path)
            have HS0 := Hid.mk (op_si0 si path (fl := 65) (by decide) 0)
            have hlen32 := si.h.len
            have p1 : wr.cell? ⟨gw, 1, none⟩ = some (.pointer (some ⟨gf, 0, none⟩)) := W_.arr.cell 1
            have HW := Hid.mk W_
            clear hpath W_ si
            obtain ⟨w0, hw0⟩ : ∃ w0, w0 = wr := ⟨_, rfl⟩
            subst hw0
            go_upto_if 47 with fail
            go_cut [6] from 48 to 52 (fun pv wx => pv = str path ∧ wx = w0)
            case first =>
              rcases HP.out with ⟨rfl, h47⟩ | ⟨j, hj, rfl, hpj⟩
              · have h47 := Hid.mk h47
                clear HP hlt hz1
                go_wp2_with fail
                go_meet
                case rel => rw [h47.out]; exact ⟨rfl, rfl⟩
              · obtain ⟨b, o, rfl, hop⟩ := HCA.out j hj
                have y7 := (hop.keep (k1.trans kw)).c7
                rw [← hpj] at y7
                have j2 : (j : Int) < ss.length := by omega
                have j0 : (0 : Int) ≤ j := by omega
                clear hop hpj HP hlt hz1
                go_wp2_with fail
                go_meet
                case rel => exact ⟨rfl, rfl⟩
            case rest =>
              obtain ⟨rfl, rfl⟩ := hcut
              go_wp2_with fail
              refine (OC _ (Keep.refl _)).mono ?_
              rintro e w4 ⟨f5, rfl, V5, st5⟩
              have HW5 := Hid.mk (HW.out.stp V5 st5)
              have k5 := Stp.keepB kw HW.out (Nat.le_refl _) st5
              clear V5 st5 OC HP
              generalize opF s.u s.hs s.T path 65 0 = X at *
              obtain ⟨u5, hs5, T5, nn, er⟩ := X
              simp only at HW5 HO65 HS0
              by_cases her : er = 0
              · subst her
                obtain ⟨h, nd, h32, hnn, hbit, hset, hndl⟩ := HO65.out rfl
                subst hnn hset
                have hh : h < s.hs.length := by rw [hlen32]; exact h32
                obtain ⟨H, al, hH0, halN, hrd, hsk, hsi, hcl, hlt3, hkl⟩ := tile_pack HS0.out hh h32 hbit
                have RC := vReaddir2_c w1.heap.size gf gt u5 (h : Nat) ((ss.length : Int) + 1) f5 (H 0) T5 w4 (by rw [hH0]; exact HW5.out.v) (hsi 0).h.node ((hsi 0).lim (by omega)).ok ((hsi 0).lim (by omega)).keys (fun n hn => by have := (hsi 0).h.cur n hn; omega)
                rw [hrd 0 (by omega) _ (by omega), List.drop_zero, List.take_of_length_le (by omega)] at RC
                unfold RetE at RC
                simp only at RC
                have HW5' : Hid (WW w1.heap.size f5 w4 gw gf gt ⟨u5, H 0, T5⟩) := Hid.mk (by rw [hH0]; exact HW5.out)
                have p5 : w4.cell? ⟨gw, 1, none⟩ = some (.pointer (some ⟨gf, 0, none⟩)) := HW5.out.arr.cell 1
                have hadd : IntKind.i64.wrap ((ss.length : Int) + 1) = (ss.length : Int) + 1 := by rw [IntKind.wrap_i64] <;> omega
                have HRD := Hid.mk hrd
                have HSK := Hid.mk hsk
                have HSIq := Hid.mk hsi
                have HCL := Hid.mk hcl
                have HLT := Hid.mk hlt3
                have HKL := Hid.mk hkl
                have HN := Hid.mk halN
                generalize 0 + min ((ss.length : Int) + 1).toNat (al.length - 0) = q0 at *
                clear hrd hsk hsi hcl hlt3 hkl HO65 HS0 HSI p1 HW HW5 hH0 halN hndl
                go_wp2_with fail
                refine RC.mono ?_
                rintro e w5 ⟨va, rfl, dv, V6, st6⟩
                have T6 := TL.mk' HW5'.out k5 V6 st6 (HSIq.out q0) dv
                obtain ⟨aa, ca, hva, hc1, hc2⟩ := dv.slice
                subst hva
                have HT6 := Hid.mk T6
                have HHH := Hid.mk hh
                clear T6 dv V6 st6 RC hh p5 hadd HW5' k5
                unfold maxLen at hc2
                go_wp2_with fail
                go_loopg [10] al.length (fun gk jv wr => ∃ j : Nat, 1 ≤ j ∧ j + gk = al.length + 1 ∧ jv = .int .i64 j ∧ Keep w5 wr)
                case atStart => exact ⟨1, by omega, by omega, rfl, Keep.refl _⟩
                case round =>
                  obtain ⟨j, hj1, hjk, rfl, kj⟩ := hrel
                  by_cases hjl : j < al.length
                  · obtain ⟨i, rfl⟩ : ∃ i, j = i + 1 := ⟨j - 1, by omega⟩
                    obtain ⟨g, cap, hsh, -, -⟩ := HT6.out.dv.shape (fun a => by rw [a] at hjl; simp at hjl)
                    simp only [Value.slice.injEq] at hsh
                    obtain ⟨rfl, -, rfl⟩ := hsh
                    have TJ := HT6.out.keep kj
                    obtain ⟨a0, -⟩ := TJ.dv.get rfl (i := i) (by omega)
                    obtain ⟨b0, -⟩ := TJ.dv.get rfl (i := i + 1) hjl
                    have LC := fun W => less_c al[i].key al[i + 1].key W (HKL.out i (by omega)) (HKL.out (i + 1) hjl)
                    rw [HLT.out i hjl] at LC
                    generalize al[i].key = ka at *
                    generalize al[i + 1].key = kb at *
                    have e0 : (0 : Int) ≤ i := by omega
                    have e1 : (i : Int) < al.length := by omega
                    have e5 : (0 : Int) ≤ (i : Int) + 1 := by omega
                    have e2 : (i : Int) + 1 < al.length := by omega
                    have e3 : IntKind.i64.wrap ((i : Int) + 1 - 1) = (i : Int) := by rw [IntKind.wrap_i64] <;> omega
                    have e4 : IntKind.i64.wrap (i : Int) = (i : Int) := by rw [IntKind.wrap_i64] <;> omega
                    have HJ := Hid.mk hjk
                    have HJL := Hid.mk hjl
                    clear TJ hjk hjl hj1
                    obtain ⟨w6, hw6⟩ : ∃ w6, w6 = wr := ⟨_, rfl⟩
                    subst hw6
                    go_upto_region 23 with fail
                    go_region_held3 (fun W => W.cell? ⟨g, i * 4, none⟩ = some (str ka) ∧ W.cell? ⟨g, (i + 1) * 4, none⟩ = some (str kb))
                      (with_reducible first | assumption | exact ⟨a0, b0⟩ | exact ⟨(Keep.refl w6).drew.cell a0, (Keep.refl w6).drew.cell b0⟩ | exact ⟨Q1.cell a0, Q1.cell b0⟩)
                      ((go_at_call 30; refine (LC _).mono ?_; rintro x y ⟨rfl, qq⟩; have Q1 : Keep w6 y := (Keep.refl w6).drew.trans qq))
                    go_wp2_with fail
                    go_roundg (gk - 1)
                    case measure => have := HJ.out; have := HJL.out; omega
                    case rel => exact ⟨i + 1 + 1, by omega, by have := HJ.out; have := HJL.out; omega, by go_num, kj.trans Q1⟩
                  · have e2 : ¬ (j : Int) < al.length := by omega
                    have HT7 := Hid.mk (HT6.out.keep kj)
                    clear hjl hjk hj1 HT6 kj
                    obtain ⟨w6, hw6⟩ : ∃ w6, w6 = wr := ⟨_, rfl⟩
                    subst hw6
                    go_upto_region 26 with fail
                    have A7 : Arr (w6.alloc (.cells #[.int .i64 1, .int .i64 2, .int .i64 3, .int .i64 7] 75)) w6.heap.size 75 [.int .i64 1, .int .i64 2, .int .i64 3, .int .i64 7] := Arr.new w6 75 _
                    have T8 := HT7.out.keep ((Keep.refl w6).alloc (.cells #[.int .i64 1, .int .i64 2, .int .i64 3, .int .i64 7] 75))
                    have n7 : ¬ fpV f5 gf w6.heap.size := fun a => by have := HT7.out.ww.v.flt a; omega
                    generalize w6.alloc (.cells #[.int .i64 1, .int .i64 2, .int .i64 3, .int .i64 7] 75) = w7 at *
                    generalize w6.heap.size = gz at *
                    have HT8 := Hid.mk T8
                    have HA7 := Hid.mk A7
                    have HN7 := Hid.mk n7
                    clear T8 A7 n7 HT7 HLT HKL e2
                    go_wp2_with fail
                    go_loopg [12] 4 (fun gk sv wr => ∃ (t q : Nat) (f6 : Nat → Prop), t + gk = 4 ∧ sv = .int .i64 t ∧ TL w1 f6 wr gw gf gt ss.length u5 (H q) T5 (.slice aa al.length ca) al ∧ Arr wr gz 75 [.int .i64 1, .int .i64 2, .int .i64 3, .int .i64 7] ∧ ¬ fpV f6 gf gz)
                    case atStart => exact ⟨0, q0, f5, by omega, rfl, HT8.out, HA7.out, HN7.out⟩
                    case round =>
                      clear HT8 HA7 HN7
                      obtain ⟨t, q, f6, htk, rfl, TT, AZ, nz⟩ := hrel
                      have HTK := Hid.mk htk
                      by_cases ht4 : t < 4
                      · have i4 : (t : Int) < 4 := by omega
                        have SC := vSeek_c w1.heap.size gf gt u5 (h : Nat) 0 0 f6 (H q) T5 wr TT.ww.v TT.si.h.node (fun i _ => TT.si.size (by omega) i) (fun n hn => by have := TT.si.h.off n hn; omega)
                        rw [HSK.out q] at SC
                        have p8 : wr.cell? ⟨gw, 1, none⟩ = some (.pointer (some ⟨gf, 0, none⟩)) := TT.ww.arr.cell 1
                        obtain ⟨sz, hsz, hsz1, hsz2⟩ : ∃ sz : Nat, [(Value.int .i64 1), .int .i64 2, .int .i64 3, .int .i64 7][t]? = some (.int .i64 (sz : Nat)) ∧ 1 ≤ sz ∧ sz ≤ 7 := by
                          match t, ht4 with
                          | 0, _ => exact ⟨1, rfl, by omega, by omega⟩
                          | 1, _ => exact ⟨2, rfl, by omega, by omega⟩
                          | 2, _ => exact ⟨3, rfl, by omega, by omega⟩
                          | 3, _ => exact ⟨7, rfl, by omega, by omega⟩
                        have HTT := Hid.mk TT
                        have HAZ := Hid.mk AZ
                        have HNZ := Hid.mk nz
                        have HSZ := Hid.mk hsz
                        clear TT AZ nz htk ht4 hsz
                        go_wp2_with fail
                        refine SC.mono ?_
                        rintro e w8 ⟨f7, rfl, V8, st8⟩
                        have HT9 := Hid.mk (HTT.out.stp V8 st8 (HSIq.out 0))
                        have HA9 := Hid.mk (st8.1.arr HNZ.out HAZ.out)
                        have HN9 := Hid.mk (stpN st8 HAZ.out.lt HNZ.out)
                        clear V8 st8 SC p8 HTT HAZ HNZ
                        obtain ⟨g4, hg4⟩ : ∃ g4, g4 = gk := ⟨_, rfl⟩
                        subst hg4
                        clear HSK
                        go_wp2_with fail
                        go_loopg [15] al.length (fun gk sv wr => ∃ (q : Nat) (f : Nat → Prop), q + gk = al.length ∧ sv = .int .i64 q ∧ TL w1 f wr gw gf gt ss.length u5 (H q) T5 (.slice aa al.length ca) al ∧ Arr wr gz 75 [.int .i64 1, .int .i64 2, .int .i64 3, .int .i64 7] ∧ ¬ fpV f gf gz)
                        case atStart => exact ⟨0, f7, by omega, rfl, HT9.out, HA9.out, HN9.out⟩
                        case round =>
                          clear HT9 HA9 HN9
                          obtain ⟨q, f8, hqk, rfl, TT, AZ, nz⟩ := hrel
                          have RC := fun W (kk : Keep wr W) => vReaddir2_c w1.heap.size gf gt u5 (h : Nat) (sz : Int) f8 (H q) T5 W (TT.ww.v.keep kk) TT.si.h.node (TT.si.lim (by omega)).ok (TT.si.lim (by omega)).keys (fun n hn => by have := TT.si.h.cur n hn; omega)
                          rw [HRD.out q (by omega) _ (by omega), Int.toNat_natCast] at RC
                          unfold RetE at RC
                          simp only at RC
                          have hpl : ((al.drop q).take sz).length = min sz (al.length - q) := by rw [List.length_take, List.length_drop]
                          have hpe : ∀ k, k < min sz (al.length - q) → ((al.drop q).take sz)[k]? = al[q + k]? := fun k hk => by rw [List.getElem?_take_of_lt (by omega), List.getElem?_drop]
                          have hl1 : min sz (al.length - q) ≤ sz := Nat.min_le_left _ _
                          have hl2 : q + min sz (al.length - q) ≤ al.length := by omega
                          have hl3 : min sz (al.length - q) = 0 → q = al.length := by omega
                          generalize min sz (al.length - q) = l at *
                          generalize (al.drop q).take sz = pg at *
                          have p8 : wr.cell? ⟨gw, 1, none⟩ = some (.pointer (some ⟨gf, 0, none⟩)) := TT.ww.arr.cell 1
                          have p9 : wr.cell? ⟨gz, t, none⟩ = some (.int .i64 (sz : Nat)) := by rw [AZ.cell]; exact HSZ.out
                          have HST : Hid (∀ y, Stp (fpV f8 gf) (fpV f8 gf) wr.drew y → y.cell? ⟨gw, 1, none⟩ = some (.pointer (some ⟨gf, 0, none⟩)) ∧ y.cell? ⟨gz, t, none⟩ = some (.int .i64 (sz : Nat))) := Hid.mk (fun y st => ⟨(st.1.arr TT.ww.nfp TT.ww.arr.drew).cell 1, by rw [(st.1.arr nz AZ.drew).cell]; exact HSZ.out⟩)
                          have HTT := Hid.mk TT
                          have HAZ := Hid.mk AZ
                          have HNZ := Hid.mk nz
                          have HQ := Hid.mk hqk
                          have HL3 := Hid.mk hl3
                          have HPE := Hid.mk hpe
                          have t0 : (0 : Int) ≤ t := by omega
                          have hqN : (q : Int) ≤ 65536 := by have := HN.out; omega
                          clear TT AZ nz hqk hl3 hpe
                          obtain ⟨wA, hwA⟩ : ∃ wA, wA = wr := ⟨_, rfl⟩
                          subst hwA
                          go_upto_region 33 with fail
                          go_cut [16, 17] from 113 to 124 (fun pv ev wx => ev = .int .i64 0 ∧ ∃ f9, TL w1 f9 wx gw gf gt ss.length u5 (H (q + l)) T5 (.slice aa al.length ca) al ∧ Arr wx gz 75 [.int .i64 1, .int .i64 2, .int .i64 3, .int .i64 7] ∧ ¬ fpV f9 gf gz ∧ ∃ B', DirO B' wx pv pg)
                          case first =>
                            go_region_held3 (fun W => W.cell? ⟨gw, 1, none⟩ = some (.pointer (some ⟨gf, 0, none⟩)) ∧ W.cell? ⟨gz, t, none⟩ = some (.int .i64 (sz : Nat)))
                              (with_reducible first | assumption | exact ⟨p8, p9⟩ | exact ⟨(Keep.refl wA).drew.cell p8, (Keep.refl wA).drew.cell p9⟩ | exact HST.out _ HS9.out)
                              ((go_at_call 29; refine (RC _ (Keep.refl wA).drew).mono ?_; rintro x y ⟨vp, rfl, dp, V9, st9⟩; have HS9 := Hid.mk st9))
                            go_wp2_with fail
                            go_meet
                            case rel => exact ⟨rfl, f8, (HTT.out.keep (Keep.refl wA).drew).stp V9 st9 (HSIq.out _), st9.1.arr HNZ.out HAZ.out.drew, HNZ.out, _, dp⟩
                          case rest =>
                            obtain ⟨rfl, f9, T9, A9, n9, B', dp⟩ := hcut
                            obtain ⟨pa, pc, hva, hc3, hc4⟩ := dp.slice
                            subst hva
                            have p9 : wc.cell? ⟨gz, t, none⟩ = some (.int .i64 (sz : Nat)) := by rw [A9.cell]; exact HSZ.out
                            have HT9 := Hid.mk T9
                            have HA9 := Hid.mk A9
                            have HN9 := Hid.mk n9
                            have HDP := Hid.mk dp
                            rw [hpl] at hc3
                            have c1 : ¬ ((l : Int) > (sz : Int)) := by omega
                            have c2 : IntKind.i64.wrap ((q : Int) + (l : Int)) = (q : Int) + (l : Int) := by rw [IntKind.wrap_i64] <;> omega
                            have c3 : ¬ ((q : Int) + (l : Int) > (al.length : Int)) := by omega
                            clear T9 A9 n9 dp RC HTT HAZ HNZ HST
                            unfold maxLen at hc4
                            rw [hpl]
                            by_cases hl0 : l = 0
                            · have hqe := HL3.out hl0
                              subst hl0
                              subst hqe
                              clear c1 c2 c3
                              go_wp2_with fail
                              go_roundg (g4 - 1)
                              case measure => have := HTK.out; omega
                              case rel => exact ⟨t + 1, al.length, f9, by have := HTK.out; omega, by go_num, HT9.out, HA9.out, HN9.out⟩
                            · have z1 : ((l : Int) == 0) = false := by simp; omega
                              have HL0 := Hid.mk hl0
                              clear hl0
                              obtain ⟨g5, hg5⟩ : ∃ g5, g5 = gk := ⟨_, rfl⟩
                              subst hg5
                              obtain ⟨wC, hwC⟩ : ∃ wC, wC = wc := ⟨_, rfl⟩
                              subst hwC
                              have hlp : (0 : Int) ≤ l := by omega
                              go_wp2_with fail
                              go_loopg [18] l (fun gk kv wr => ∃ (j : Nat), j + gk = l ∧ kv = .int .i64 j ∧ Keep wC wr)
                              case atStart => exact ⟨0, by omega, rfl, Keep.refl _⟩
                              case round =>
                                obtain ⟨j, hjk, rfl, kj⟩ := hrel
                                have HJ := Hid.mk hjk
                                by_cases hjl : j < l
                                · have j1 : (j : Int) < l := by omega
                                  have j0 : (0 : Int) ≤ j := by omega
                                  have hpj : j < pg.length := by omega
                                  have haj : q + j < al.length := by omega
                                  have heq : pg[j] = al[q + j] := by
                                    have := HPE.out j hjl
                                    rw [List.getElem?_eq_getElem hpj, List.getElem?_eq_getElem haj] at this
                                    exact Option.some.inj this
                                  obtain ⟨g, cap, hsh, -, -⟩ := HT9.out.dv.shape (fun a => by rw [a] at haj; simp at haj)
                                  simp only [Value.slice.injEq] at hsh
                                  obtain ⟨rfl, -, rfl⟩ := hsh
                                  obtain ⟨g', cap', hsh, -, -⟩ := HDP.out.shape (fun a => by rw [a] at hpj; simp at hpj)
                                  simp only [Value.slice.injEq] at hsh
                                  obtain ⟨rfl, -, rfl⟩ := hsh
                                  obtain ⟨a0, a1, a2, a3⟩ := (HT9.out.keep kj).dv.get rfl haj
                                  obtain ⟨b0, b1, b2, b3⟩ := DirO.get (B := B') (l := pg) (HDP.out.keep kj) (by rw [hpl]) hpj
                                  rw [heq] at b0 b1 b2 b3
                                  generalize al[q + j] = D at *
                                  obtain ⟨dk, dn, dkk, di⟩ := D
                                  simp only at a0 a1 a2 a3 b0 b1 b2 b3
                                  have e1 : IntKind.i64.wrap ((q : Int) + (j : Int)) = ((q + j : Nat) : Int) := by rw [IntKind.wrap_i64] <;> omega
                                  have e2 : ((q + j : Nat) : Int) < al.length := by omega
                                  have HHJ := Hid.mk hjl
                                  clear hjl hjk heq hpj haj
                                  generalize q + j = qj at *
                                  go_upto_region 40 with fail
                                  go_quiet (fail)
                                  go_wp2_with fail
                                  go_roundg (gk - 1)
                                  case measure => have := HJ.out; have := HHJ.out; omega
                                  case rel => exact ⟨j + 1, by have := HJ.out; have := HHJ.out; omega, by go_num, kj.drewN _⟩
                                · have j1 : ¬ (j : Int) < l := by omega
                                  have HT10 := Hid.mk (HT9.out.keep kj)
                                  have HA10 := Hid.mk (HA9.out.keep kj)
                                  clear hjl hjk
                                  go_wp2_with fail
                                  go_roundg (g5 - l)
                                  case measure => have := HQ.out; have := HL0.out; omega
                                  case rel => exact ⟨q + l, f9, by have := HQ.out; omega, by go_num, HT10.out, HA10.out, HN9.out⟩
                      · have i4 : ¬ (t : Int) < 4 := by omega
                        have CC := vClose_c w1.heap.size gf gt u5 (h : Nat) f6 (H q) T5 wr TT.ww.v TT.si.h.node (fun n hn hb => ⟨TT.si.h.opos hn hb, by have := TT.si.h.olt (hat (H q) n).node; omega⟩)
                        have p8 : wr.cell? ⟨gw, 1, none⟩ = some (.pointer (some ⟨gf, 0, none⟩)) := TT.ww.arr.cell 1
                        have HCS := Hid.mk (cls_si TT.si (h : Nat))
                        rw [HCL.out q] at CC
                        have HTT := Hid.mk TT
                        generalize clsF u5 (H q) T5 (h : Nat) = XX at *
                        obtain ⟨u6, hs6, T6, er6⟩ := XX
                        simp only at CC HCS
                        clear TT AZ nz htk ht4
                        go_wp2_with fail
                        refine CC.mono ?_
                        rintro e wB ⟨f10, rfl, V10, st10⟩
                        have HWW := Hid.mk (HTT.out.ww.stp V10 st10)
                        have kz := Stp.keepB HTT.out.kp HTT.out.ww (Nat.le_refl _) st10
                        clear V10 st10 CC
                        go_wp2_with fail
                        go_roundg (g2 - 1)
                        case measure => have := HK.out; omega
                        case rel => exact ⟨z + 1, f10, ⟨u6, hs6, T6⟩, by have := HK.out; omega, by omega, by go_num, HWW.out, HCS.out, kz⟩
              · have q1 : (er != 0) = true := by simpa using her
                clear her HO65 HSI p1 HW
                go_wp2_with fail
                go_roundg (g2 - 1)
                case measure => have := HK.out; omega
                case rel => exact ⟨z + 1, f5, ⟨u5, hs5, T5⟩, by have := HK.out; omega, by omega, by go_num, HW5.out, HS0.out, k5⟩
          · clear W_ si
            go_wp2_with fail
            go_ret
            exact ⟨rfl, k1.trans kw⟩
end Go.Proofs.Qxb6500767a
