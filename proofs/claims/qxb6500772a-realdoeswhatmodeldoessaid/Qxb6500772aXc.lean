/- interpm: Exec. -/
import Derived.Test.Qxb6500772aXb
import Derived.Test.Qxb6500772aTh
import Derived.Test.Qxb6500772aLf
import Derived.Deep.RegionHeld3
import Derived.BigQuiet
import Derived.Test.Qxb6500772aXe
namespace Go.Proofs.Qxb6500772a
open Go.RowKit Go.Qm
set_option linter.unusedVariables false
set_option linter.unusedSimpArgs false
attribute [local go_sem ↓] Go.wp_at_zero Go.wp_at_succ
set_option maxRecDepth 8000 in
set_option maxHeartbeats 40000000 in
theorem exec_n {P : Nat → Prop} {cs : List Cel} (hcl : cs.length ≤ 1000000) (hcw : ∀ c ∈ cs, 1 ≤ c.w ∧ c.w ≤ 64) (fb : EF) : ∀ (N : Nat) (t : SL), t.size = N → ExC P cs fb t := by
  intro N
  induction N using Nat.strongRecOn with
  | _ N ih =>
    intro t hN w cv bv kb v rows gS gC ca cap sp S0 hPS hc hb hkb hr he hwt hst hok hgC
    have hW : WsOK (cs.map (·.w)) := fun a ha => by
      obtain ⟨c, hc, rfl⟩ := List.mem_map.1 ha
      exact hcw c hc
    have HB0 := Hid.mk hb
    have HKB0 := Hid.mk hkb
    obtain ⟨ba, bn, bc, rfl⟩ := hb
    obtain ⟨ka, kn, kc, rfl⟩ := hkb
    obtain ⟨pa, pc, hcv, cv1, cv2⟩ := hc.form
    subst hcv
    have hlen := he.len
    obtain ⟨va, vc, hv, v1, v2⟩ := hr.form
    rw [hlen] at hv v1
    subst hv
    unfold maxLen at v2 cv2
    have HC := Hid.mk hc
    have HR := Hid.mk hr
    have HE := Hid.mk he
    have HLEN := Hid.mk hlen
    have HPS := Hid.mk hPS
    have HWT := Hid.mk hwt
    have HWS := Hid.mk hW
    have HST0 := Hid.mk hst
    have HOK0 := Hid.mk hok
    have HCW := Hid.mk hcw
    have HIH : Hid (∀ (t' : SL), t'.size < t.size → ExC P cs fb t') := Hid.mk (fun t' ht' => ih t'.size (by rw [← hN]; exact ht') t' rfl)
    have HX : Hid (exL (cs.map (·.w)) t S0 = t.toL.foldl (exX (cs.map (·.w))) S0) := Hid.mk (exL_fold _ _ _)
    generalize exL (cs.map (·.w)) t S0 = res at *
    simp only [SL.len] at *
    have hli : (t.toL.length : Int) ≤ 9223372036854775807 := by omega
    have hcli : (cs.length : Int) ≤ 1000000 := by omega
    have hgS : gS < w.heap.size := hst.st.lt
    clear hc hr he hlen ih hN hcw hPS hwt hst hok hW
    simp only [prA] at *
    obtain ⟨W, hWd⟩ : ∃ W, W = w.alloc (.cells #[.slice pa cs.length pc, .slice ba bn bc, .int .i64 fb.k, .int .i64 fb.w, .int .i64 fb.o, .int .u64 (fb.v : Nat), .int .i64 fb.c, .int .i64 fb.l, .slice ka kn kc] 33) := ⟨_, rfl⟩
    have kW : Keep w W := by rw [hWd]; exact (Keep.refl w).alloc _
    have aP : Arr W w.heap.size 33 (PrC (.slice pa cs.length pc) (.slice ba bn bc) fb (.slice ka kn kc)) := by rw [hWd]; exact Arr.new w 33 _
    have HKW := Hid.mk kW
    have HAP := Hid.mk aP
    have hPn : ¬ pS gS gC w.heap.size := fun e => by rcases e with e | e <;> omega
    have HPN := Hid.mk hPn
    have hPW0 : w.heap.size ≤ W.heap.size := HKW.out.size
    clear kW aP hPn
    go_enter Try.func12, Try.ntmps12
    go_upto_region 1 with fail
    rw [← hWd]
    generalize w.heap.size = gP at *
    clear hWd
    go_wp2_with fail
    refine wp_loop_frm 523 (fun gk g wr => ∃ (k : Nat), k + gk = t.toL.length ∧ g 39 = .int .i64 k ∧ Fr (pS gS gC) W wr ∧ StM wr gS gC ca cap sp ((t.toL.take k).foldl (exX (cs.map (·.w))) S0) ∧ g 0 = .agg #[.slice pa cs.length pc, .slice ba bn bc, .int .i64 fb.k, .int .i64 fb.w, .int .i64 fb.o, .int .u64 (fb.v : Nat), .int .i64 fb.c, .int .i64 fb.l, .slice ka kn kc] ∧ g 1 = .slice va t.toL.length vc ∧ g 2 = .pointer (some ⟨gS, 0, none⟩) ∧ g 3 = .pointer (some ⟨gP, 0, none⟩) ∧ g 37 = .slice va t.toL.length vc ∧ g 38 = .int .i64 (t.toL.length : Int)) t.toL.length (by rfl) rfl ?_ ?_
    · exact ⟨0, by omega, rfl, Fr.refl _ W, HST0.out.keep HKW.out, rfl, rfl, rfl, rfl, rfl, rfl⟩
    · intro gk g wr hrel J K hJ hK
      obtain ⟨k, hk, g39, kp, hG, g0, g1, g2, g3, g37, g38⟩ := hrel
      rw [show frm 523 g = ⟨#[g 0, g 1, g 2, g 3, g 4, g 5, g 6, g 7, g 8, g 9, g 10, g 11, g 12, g 13, g 14, g 15, g 16, g 17, g 18, g 19, g 20, g 21, g 22, g 23, g 24, g 25, g 26, g 27, g 28, g 29, g 30, g 31, g 32, g 33, g 34, g 35, g 36, g 37, g 38, g 39, g 40, g 41, g 42, g 43, g 44, g 45, g 46, g 47, g 48, g 49, g 50, g 51, g 52, g 53, g 54, g 55, g 56, g 57, g 58, g 59, g 60, g 61, g 62, g 63, g 64, g 65, g 66, g 67, g 68, g 69, g 70, g 71, g 72, g 73, g 74, g 75, g 76, g 77, g 78, g 79, g 80, g 81, g 82, g 83, g 84, g 85, g 86, g 87, g 88, g 89, g 90, g 91, g 92, g 93, g 94, g 95, g 96, g 97, g 98, g 99, g 100, g 101, g 102, g 103, g 104, g 105, g 106, g 107, g 108, g 109, g 110, g 111, g 112, g 113, g 114, g 115, g 116, g 117, g 118, g 119, g 120, g 121, g 122, g 123, g 124, g 125, g 126, g 127, g 128, g 129, g 130, g 131, g 132, g 133, g 134, g 135, g 136, g 137, g 138, g 139, g 140, g 141, g 142, g 143, g 144, g 145, g 146, g 147, g 148, g 149, g 150, g 151, g 152, g 153, g 154, g 155, g 156, g 157, g 158, g 159, g 160, g 161, g 162, g 163, g 164, g 165, g 166, g 167, g 168, g 169, g 170, g 171, g 172, g 173, g 174, g 175, g 176, g 177, g 178, g 179, g 180, g 181, g 182, g 183, g 184, g 185, g 186, g 187, g 188, g 189, g 190, g 191, g 192, g 193, g 194, g 195, g 196, g 197, g 198, g 199, g 200, g 201, g 202, g 203, g 204, g 205, g 206, g 207, g 208, g 209, g 210, g 211, g 212, g 213, g 214, g 215, g 216, g 217, g 218, g 219, g 220, g 221, g 222, g 223, g 224, g 225, g 226, g 227, g 228, g 229, g 230, g 231, g 232, g 233, g 234, g 235, g 236, g 237, g 238, g 239, g 240, g 241, g 242, g 243, g 244, g 245, g 246, g 247, g 248, g 249, g 250, g 251, g 252, g 253, g 254, g 255, g 256, g 257, g 258, g 259, g 260, g 261, g 262, g 263, g 264, g 265, g 266, g 267, g 268, g 269, g 270, g 271, g 272, g 273, g 274, g 275, g 276, g 277, g 278, g 279, g 280, g 281, g 282, g 283, g 284, g 285, g 286, g 287, g 288, g 289, g 290, g 291, g 292, g 293, g 294, g 295, g 296, g 297, g 298, g 299, g 300, g 301, g 302, g 303, g 304, g 305, g 306, g 307, g 308, g 309, g 310, g 311, g 312, g 313, g 314, g 315, g 316, g 317, g 318, g 319, g 320, g 321, g 322, g 323, g 324, g 325, g 326, g 327, g 328, g 329, g 330, g 331, g 332, g 333, g 334, g 335, g 336, g 337, g 338, g 339, g 340, g 341, g 342, g 343, g 344, g 345, g 346, g 347, g 348, g 349, g 350, g 351, g 352, g 353, g 354, g 355, g 356, g 357, g 358, g 359, g 360, g 361, g 362, g 363, g 364, g 365, g 366, g 367, g 368, g 369, g 370, g 371, g 372, g 373, g 374, g 375, g 376, g 377, g 378, g 379, g 380, g 381, g 382, g 383, g 384, g 385, g 386, g 387, g 388, g 389, g 390, g 391, g 392, g 393, g 394, g 395, g 396, g 397, g 398, g 399, g 400, g 401, g 402, g 403, g 404, g 405, g 406, g 407, g 408, g 409, g 410, g 411, g 412, g 413, g 414, g 415, g 416, g 417, g 418, g 419, g 420, g 421, g 422, g 423, g 424, g 425, g 426, g 427, g 428, g 429, g 430, g 431, g 432, g 433, g 434, g 435, g 436, g 437, g 438, g 439, g 440, g 441, g 442, g 443, g 444, g 445, g 446, g 447, g 448, g 449, g 450, g 451, g 452, g 453, g 454, g 455, g 456, g 457, g 458, g 459, g 460, g 461, g 462, g 463, g 464, g 465, g 466, g 467, g 468, g 469, g 470, g 471, g 472, g 473, g 474, g 475, g 476, g 477, g 478, g 479, g 480, g 481, g 482, g 483, g 484, g 485, g 486, g 487, g 488, g 489, g 490, g 491, g 492, g 493, g 494, g 495, g 496, g 497, g 498, g 499, g 500, g 501, g 502, g 503, g 504, g 505, g 506, g 507, g 508, g 509, g 510, g 511, g 512, g 513, g 514, g 515, g 516, g 517, g 518, g 519, g 520, g 521, g 522], []⟩ from rfl, g0, g1, g2, g3, g37, g38, g39]
      clear g0 g1 g2 g3 g37 g38 g39
      have HK := Hid.mk hk
      have HKP := Hid.mk kp
      have HG := Hid.mk hG
      by_cases hlt : k < t.toL.length
      · have j1 : (k : Int) < t.toL.length := by omega
        have j2 : (0 : Int) ≤ k := by omega
        have hrl : k < rows.length := by rw [HLEN.out]; exact hlt
        have KPW : KP P w wr := (KP.of HKW.out).trans (KP.fr kp HPS.out)
        obtain ⟨ev, er, tv, tr, lv, lr, x1, x2, x3, x4, x5, x6, x7, x8⟩ := (HE.out.step KPW).get k hlt hrl
        obtain ⟨b, o, ha, -, -, hc⟩ := (HR.out.step KPW).cell hrl
        subst ha
        have c0 := hc 0 (by decide)
        have c1 := hc 1 (by decide)
        have c2 := hc 2 (by decide)
        have c3 := hc 3 (by decide)
        have c4 := hc 4 (by decide)
        have c5 := hc 5 (by decide)
        have c6 := hc 6 (by decide)
        have c7 := hc 7 (by decide)
        rw [x1] at c0 c1 c2 c3 c4 c5 c6 c7
        simp only [sfC, List.getElem?_cons_zero, List.getElem?_cons_succ, Nat.add_zero] at c0 c1 c2 c3 c4 c5 c6 c7
        have hms := SL.mem_size (List.getElem_mem hlt)
        have HMS := Hid.mk hms
        have HWX := Hid.mk (wtS_mem HWT.out _ (List.getElem_mem hlt))
        have hokk := exF_ok HWS.out (t.toL.take k) (fun x hx => wtS_mem HWT.out x (List.mem_of_mem_take hx)) S0 HOK0.out
        have HOK := Hid.mk hokk
        have HF : Hid ((t.toL.take (k + 1)).foldl (exX (cs.map (·.w))) S0 = exX (cs.map (·.w)) ((t.toL.take k).foldl (exX (cs.map (·.w))) S0) t.toL[k]) := Hid.mk (by rw [List.take_succ_eq_append_getElem hlt, List.foldl_append]; rfl)
        generalize (t.toL.take k).foldl (exX (cs.map (·.w))) S0 = S at *
        generalize t.toL[k] = x at *
        obtain ⟨f, ex, th, el⟩ := x
        simp only at *
        have hel := x4.len
        obtain ⟨ea, ec, hev, ev1, ev2⟩ := x3.form
        obtain ⟨ta, tc, htv, tv1, tv2⟩ := x5.form
        obtain ⟨la, lc, hlv, lv1, lv2⟩ := x7.form
        rw [hel] at hev ev1
        subst hev htv hlv
        unfold maxLen at ev2 tv2 lv2
        have HX3 := Hid.mk x3
        have HX4 := Hid.mk x4
        have HX5 := Hid.mk x5
        have HX6 := Hid.mk x6
        have HX7 := Hid.mk x7
        have HX8 := Hid.mk x8
        have HSF := Hid.mk x2
        have HEL := Hid.mk hel
        have hsl := hokk.1
        have HSL := Hid.mk hsl
        have hPW : gP < wr.heap.size := (kp.arr HPN.out HAP.out).lt
        have hQn : ¬ pS gS gC wr.heap.size := fun e => by
          have := hG.st.lt
          have h9 := HKP.out.size
          have h8 := hPW0
          rcases e with e | e
          · omega
          · omega
        have HQN := Hid.mk hQn
        clear hc x1 x2 x3 x4 x5 x6 x7 x8 hk kp hrl hms hG hel KPW hokk hsl hQn
        go_upto_region 4 with fail
        obtain ⟨V, hV⟩ : ∃ V, V = wr.alloc (.cells #[.int .i64 f.k, .int .i64 f.c, .int .i64 f.l, .int .i64 f.a, .int .i64 f.b, .slice ea ex.len ec, .slice ta tr.length tc, .slice la lr.length lc] 109) := ⟨_, rfl⟩
        rw [← hV]
        have kV : Keep wr V := by rw [hV]; exact (Keep.refl wr).alloc _
        have aV : Arr V wr.heap.size 109 (SfC f (.slice ea ex.len ec) (.slice ta tr.length tc) (.slice la lr.length lc)) := by rw [hV]; exact Arr.new wr 109 _
        have HKV := Hid.mk kV
        have HAV := Hid.mk aV
        have HFV := Hid.mk (HKP.out.trans (Fr.keep kV))
        have HKPV := Hid.mk (((KP.of HKW.out).trans (KP.fr HKP.out HPS.out)).trans (KP.of (P := P) kV))
        have HAPV := Hid.mk (HFV.out.arr HPN.out HAP.out)
        have HSV := Hid.mk (HG.out.keep kV)
        have HX3 := Hid.mk (HX3.out.step (KP.of kV))
        have HX4 := Hid.mk (HX4.out.step (KP.of kV))
        have HX5 := Hid.mk (HX5.out.step (KP.of kV))
        have HX6 := Hid.mk (HX6.out.step (KP.of kV))
        have HX7 := Hid.mk (HX7.out.step (KP.of kV))
        have HX8 := Hid.mk (HX8.out.step (KP.of kV))
        obtain ⟨q0, q1, q2, q3, q4, q5, q6, q7⟩ := sfC_cells aV
        have hgCV : gC < V.heap.size := Nat.lt_of_lt_of_le hgC (Nat.le_trans hPW0 (Nat.le_trans HKP.out.size kV.size))
        generalize wr.heap.size = gQ at *
        clear hV kV aV c0 c1 c2 c3 c4 c5 c6 c7 HE HR
        have HDS : Hid (∀ Z, Fr (pS gS gC) V Z → Arr Z gP 33 (PrC (.slice pa cs.length pc) (.slice ba bn bc) fb (.slice ka kn kc)) ∧ Arr Z gQ 109 (SfC f (.slice ea ex.len ec) (.slice ta tr.length tc) (.slice la lr.length lc))) := Hid.mk (fun Z fz => ⟨fz.arr HPN.out HAPV.out, fz.arr HQN.out HAV.out⟩)
        have HKPZ : Hid (∀ Z, Fr (pS gS gC) V Z → KP P V Z) := Hid.mk (fun Z fz => KP.fr fz HPS.out)
        have HCV := Hid.mk (HC.out.step HKPV.out)
        have KCN : Hid (∀ i (hi : i < ex.toL.length), ∃ b o kx kn kc, ea = some ⟨b, o, none⟩ ∧ (∀ Z, Fr (pS gS gC) V Z → ∀ j < 7, Z.cell? ⟨b, o + i * 7 + j, none⟩ = (efC ex.toL[i].1 (.slice kx kn kc))[j]?) ∧ (∀ Z, Fr (pS gS gC) V Z → Vs Z (.slice ca S.cells.length cap) S.cells → Calls Try.prog 36 #[efA ex.toL[i].1 (.slice kx kn kc), .agg #[.slice ca S.cells.length cap, .bool S.fault]] Z fun e w' => e = .returned (.tuple #[.int .u64 ((kv (evL ex S) i : Nat) : Int), .bool (kf (evL ex S) i)]) ∧ Keep Z w')) := Hid.mk (fun i hi => by
          have hrl : i < er.length := by rw [HEL.out]; exact hi
          obtain ⟨xv, xr, y1, y2, y3, y4⟩ := HX4.out.get i hi hrl
          obtain ⟨b, o, ha, hp, hbl, hc⟩ := HX3.out.cell hrl
          obtain ⟨kx, kc, hkv, -, -⟩ := y3.form
          generalize xr.length = kn at hkv
          subst hkv
          refine ⟨b, o, kx, kn, kc, ha, fun Z fz j hj => ?_, fun Z fz hv => ?_⟩
          · have h1 := hc j hj
            rw [y1] at h1
            rw [(HKPZ.out Z fz).cell hp hbl]
            exact h1
          · have h9 := eval_i (P := P) (ws := cs.map (·.w)) ex.toL[i].1 ex.toL[i].2 Z _ xr _ S y2 (y3.step (HKPZ.out Z fz)) (y4.step (HKPZ.out Z fz)) (wtL_mm HWX.out.1 _ (List.getElem_mem hi)).1 (wtL_mm HWX.out.1 _ (List.getElem_mem hi)).2 hv HOK.out
            rw [← evL_get ex S i hi] at h9
            exact h9)
        have HTH : Hid (∀ Z S', Fr (pS gS gC) V Z → wtS (cs.map (·.w)) th → StM Z gS gC ca cap sp S' → StOK (cs.map (·.w)) S' → Calls Try.prog 12 #[prA (.slice pa cs.length pc) (.slice ba bn bc) fb (.slice ka kn kc), .slice ta tr.length tc, .pointer (some ⟨gS, 0, none⟩)] Z fun e w' => e = .returned (.tuple #[]) ∧ StM w' gS gC ca cap sp (exL (cs.map (·.w)) th S') ∧ Fr (pS gS gC) Z w') := Hid.mk (fun Z S' fz hw hs hk => HIH.out th HMS.out.1 Z _ _ _ _ _ gS gC ca cap sp S' HPS.out (HCV.out.step (HKPZ.out Z fz)) HB0.out HKB0.out (HX5.out.step (HKPZ.out Z fz)) (HX6.out.step (HKPZ.out Z fz)) hw hs hk (Nat.lt_of_lt_of_le hgCV fz.size))
        have HEE : Hid (∀ Z S', Fr (pS gS gC) V Z → wtS (cs.map (·.w)) el → StM Z gS gC ca cap sp S' → StOK (cs.map (·.w)) S' → Calls Try.prog 12 #[prA (.slice pa cs.length pc) (.slice ba bn bc) fb (.slice ka kn kc), .slice la lr.length lc, .pointer (some ⟨gS, 0, none⟩)] Z fun e w' => e = .returned (.tuple #[]) ∧ StM w' gS gC ca cap sp (exL (cs.map (·.w)) el S') ∧ Fr (pS gS gC) Z w') := Hid.mk (fun Z S' fz hw hs hk => HIH.out el HMS.out.2 Z _ _ _ _ _ gS gC ca cap sp S' HPS.out (HCV.out.step (HKPZ.out Z fz)) HB0.out HKB0.out (HX7.out.step (HKPZ.out Z fz)) (HX8.out.step (HKPZ.out Z fz)) hw hs hk (Nat.lt_of_lt_of_le hgCV fz.size))
        simp only [prA, efA] at HTH HEE KCN
        have HWO := Hid.mk HWX.out.2
        have HEXO : Hid (exX (cs.map (·.w)) S (f, ex, th, el) = exOne (cs.map (·.w)) f (evL ex S) ex.ws (exL (cs.map (·.w)) th) (exL (cs.map (·.w)) el) S) := Hid.mk rfl
        generalize exX (cs.map (·.w)) S (f, ex, th, el) = S9 at *
        obtain ⟨r1, r2, r3, r4, r5⟩ := HSF.out
        clear HIH HX3 HX4 HX5 HX6 HX7 HX8 HKPV HAPV HAV HKV HAP HG
        rcases HWO.out with ⟨kd, a0, E, hcc⟩ | ⟨kd, a0, a1, E, hcc⟩ | ⟨kd, E, hT, hE⟩ | ⟨kd, E, hcc, hT⟩ | ⟨kd, E, hcc⟩ | ⟨kd, a0, E, hcc, hcd⟩ | ⟨kd, a0, E, hcc, hcd, hce⟩
        · as_aux_lemma =>
            have hexl : ex.toL.length = 1 := by have := ws_len ex; rw [E] at this; simpa [EL.len] using this.symm
            have hexi : (ex.len : Int) = 1 := by unfold EL.len; omega
            obtain ⟨b, o, kx0, kn0, kc0, ha0, hcl0, hca0⟩ := KCN.out 0 (by omega)
            have hxw0 : ex.toL[0].1.w = ex.ws.getD 0 0 := (ws_get ex 0 (by omega)).symm
            have hlt0 := evL_lt HOK.out HWX.out.1 0 (by omega)
            rw [E] at hxw0 hlt0
            simp only [List.getD_cons_zero, List.getD_cons_succ, kw] at hxw0 hlt0
            subst ha0
            generalize ex.toL[0].1 = x0 at *
            have HCA0 := Hid.mk hca0
            have HCL0 := Hid.mk hcl0
            have HAF : Hid (anyF (evL ex S) = (kf (evL ex S) 0)) := Hid.mk (by
              have hl9 := evL_len ex S
              rw [hexl] at hl9
              generalize evL ex S = ee at *
              match ee, hl9 with
              | [a], _ => simp [anyF, kf])
            clear hca0 hcl0 hexl KCN
            obtain ⟨c0, c1, c2, c3⟩ := hcc
            obtain ⟨C, hC⟩ : ∃ C : Nat, f.c = C := ⟨f.c.toNat, by omega⟩
            have hCl : C < S.cells.length := by have := HSL.out; omega
            have EQ : Hid (S9 = ⟨(S.put C (kv (evL ex S) 0)).cells, S.fault || kf (evL ex S) 0⟩) := Hid.mk (by rw [HEXO.out]; simp only [exOne, kd, if_true, HAF.out, hC]; rfl)
            generalize kv (evL ex S) 0 = n0 at *
            generalize kf (evL ex S) 0 = f0 at *
            have HSS0 : Hid (∀ Z, Keep V Z → Z.cell? ⟨gQ, 5, none⟩ = some (.slice (some ⟨b, o, none⟩) ex.len ec) ∧ Z.cell? ⟨b, o, none⟩ = some (.int .i64 x0.k) ∧ Z.cell? ⟨b, o + 1, none⟩ = some (.int .i64 x0.w) ∧ Z.cell? ⟨b, o + 2, none⟩ = some (.int .i64 x0.o) ∧ Z.cell? ⟨b, o + 3, none⟩ = some (.int .u64 (x0.v : Nat)) ∧ Z.cell? ⟨b, o + 4, none⟩ = some (.int .i64 x0.c) ∧ Z.cell? ⟨b, o + 5, none⟩ = some (.int .i64 x0.l) ∧ Z.cell? ⟨b, o + 6, none⟩ = some (.slice kx0 kn0 kc0) ∧ Z.cell? ⟨gS, 0, none⟩ = some (.slice ca S.cells.length cap) ∧ Z.cell? ⟨gS, 1, none⟩ = some (.bool S.fault)) := Hid.mk (fun Z kz => by
              obtain ⟨hd9, hq9⟩ := HDS.out Z (Fr.keep kz)
              obtain ⟨q0, q1, q2, q3, q4, q5, q6, q7⟩ := sfC_cells hq9
              obtain ⟨s0, s1, -⟩ := (HSV.out.keep kz).fs
              have g := HCL0.out Z (Fr.keep kz)
              have g0 := g 0 (by decide)
              have g1 := g 1 (by decide)
              have g2 := g 2 (by decide)
              have g3 := g 3 (by decide)
              have g4 := g 4 (by decide)
              have g5 := g 5 (by decide)
              have g6 := g 6 (by decide)
              simp only [efC, List.getElem?_cons_zero, List.getElem?_cons_succ, Nat.zero_mul, Nat.one_mul, Nat.reduceMul, Nat.add_zero] at g0 g1 g2 g3 g4 g5 g6
              exact ⟨q5, g0, g1, g2, g3, g4, g5, g6, s0, s1⟩)
            rw [kd] at q0
            rw [hC] at q1
            have HHC := Hid.mk hC
            have HCC := Hid.mk hCl
            have m1 : (C : Int) < S.cells.length := by omega
            have m2 : (0 : Int) ≤ C := by omega
            clear kd E c0 c1 c2 c3 hC hCl hxw0 hlt0
            go_wp2_with fail
            go_region_held3 (fun w' => w'.cell? ⟨gQ, 5, none⟩ = some (.slice (some ⟨b, o, none⟩) ex.len ec) ∧ w'.cell? ⟨b, o, none⟩ = some (.int .i64 x0.k) ∧ w'.cell? ⟨b, o + 1, none⟩ = some (.int .i64 x0.w) ∧ w'.cell? ⟨b, o + 2, none⟩ = some (.int .i64 x0.o) ∧ w'.cell? ⟨b, o + 3, none⟩ = some (.int .u64 (x0.v : Nat)) ∧ w'.cell? ⟨b, o + 4, none⟩ = some (.int .i64 x0.c) ∧ w'.cell? ⟨b, o + 5, none⟩ = some (.int .i64 x0.l) ∧ w'.cell? ⟨b, o + 6, none⟩ = some (.slice kx0 kn0 kc0) ∧ w'.cell? ⟨gS, 0, none⟩ = some (.slice ca S.cells.length cap) ∧ w'.cell? ⟨gS, 1, none⟩ = some (.bool S.fault)) (first | exact HSS0.out _ ((Keep.refl V).drew) | exact HSS0.out _ ((Keep.refl V).drew.trans k2)) (first | (go_at_call 36; refine (HCA0.out _ (Fr.keep (Keep.refl V).drew) (HSV.out.keep (Keep.refl V).drew).vs).mono ?_; rintro e w2 ⟨rfl, k2⟩))
            rename_i hHd
            clear hHd
            have HKw2 := Hid.mk ((Keep.refl V).drew.trans k2)
            clear k2
            have ST2 := HSV.out.keep HKw2.out
            obtain ⟨hca9, cC, fC⟩ := ST2.cell HCC.out
            subst hca9
            have ST3 := ST2.put HCC.out n0
            obtain ⟨hd9, hq9⟩ := HDS.out w2 (Fr.keep HKw2.out)
            obtain ⟨d0, d1, d2, d3, d4, d5, d6, d7, d8⟩ := prC_cells hd9
            obtain ⟨q0, q1, q2, q3, q4, q5, q6, q7⟩ := sfC_cells hq9
            obtain ⟨s0, s1, sf⟩ := (ST2).fs
            clear hd9 hq9
            rw [HHC.out] at q1
            have HST3 := Hid.mk ST3
            have ne1 : gC ≠ gS := Ne.symm HSV.out.ne
            have ne2 : gC ≠ gQ := fun e => HQN.out (Or.inr e.symm)
            have ne3 : gS ≠ gQ := fun e => HQN.out (Or.inl e.symm)
            clear ST2 ST3
            go_wp2_with fail
            go_region_held3 (fun w' => w'.cell? ⟨gS, 0, none⟩ = some (.slice (some ⟨gC, 0, none⟩) S.cells.length cap) ∧ w'.cell? ⟨gQ, 1, none⟩ = some (.int .i64 (C : Int))) (first | exact ⟨s0, q1⟩ | go_keep) (fail)
            rename_i hHd
            clear hHd
            obtain ⟨w3, hw9⟩ : ∃ w3, w3 = (w2.setCell ⟨gC, C, none⟩ (.int .u64 (n0 : Int))).drew := ⟨_, rfl⟩
            rw [← hw9]
            have STw3 : StM w3 gS gC (some ⟨gC, 0, none⟩) cap sp (S.put C n0) := by rw [hw9]; exact HST3.out.keep ((Keep.refl _).drew)
            have FRw3 : Fr (pS gS gC) V w3 := by rw [hw9]; exact ((Fr.keep HKw2.out).trans (frC _ gS gC _ _)).trans (Fr.keep ((Keep.refl _).drew))
            have HSTw3 := Hid.mk STw3
            have HFRw3 := Hid.mk FRw3
            clear hw9 s0 s1 sf q0 q1 q2 q3 q4 q5 q6 q7 d0 d1 d2 d3 d4 d5 d6 d7 d8 cC fC
            obtain ⟨s0, s1, sf⟩ := HSTw3.out.fs
            simp only [PS.put] at s0 s1
            rcases Bool.eq_false_or_eq_true S.fault with hs | hs
            · have HFS := Hid.mk hs
              rw [hs] at s1
              clear hs
              go_wp2_with fail
              refine Handed.intro (t.toL.length - (k + 1)) (by have := HK.out; omega) ?_
              go_step
              refine InvF.of (by rfl) rfl ⟨k + 1, by have := HK.out; omega, by first | rfl | (show Value.int _ _ = _; go_num), HFV.out.trans (HFRw3.out.trans (frS _ gS gC _)), ?_, rfl, rfl, rfl, rfl, rfl, rfl⟩
              rw [HF.out, EQ.out, HFS.out]
              exact HSTw3.out.flt _
            · have HFS := Hid.mk hs
              rw [hs] at s1
              clear hs
              go_wp2_with fail
              refine Handed.intro (t.toL.length - (k + 1)) (by have := HK.out; omega) ?_
              go_step
              refine InvF.of (by rfl) rfl ⟨k + 1, by have := HK.out; omega, by first | rfl | (show Value.int _ _ = _; go_num), HFV.out.trans (HFRw3.out.trans (frS _ gS gC _)), ?_, rfl, rfl, rfl, rfl, rfl, rfl⟩
              rw [HF.out, EQ.out, HFS.out]
              exact HSTw3.out.flt _
        · as_aux_lemma =>
            have hexl : ex.toL.length = 2 := by have := ws_len ex; rw [E] at this; simpa [EL.len] using this.symm
            have hexi : (ex.len : Int) = 2 := by unfold EL.len; omega
            obtain ⟨b, o, kx0, kn0, kc0, ha0, hcl0, hca0⟩ := KCN.out 0 (by omega)
            have hxw0 : ex.toL[0].1.w = ex.ws.getD 0 0 := (ws_get ex 0 (by omega)).symm
            have hlt0 := evL_lt HOK.out HWX.out.1 0 (by omega)
            rw [E] at hxw0 hlt0
            simp only [List.getD_cons_zero, List.getD_cons_succ, kw] at hxw0 hlt0
            subst ha0
            obtain ⟨b1, o1, kx1, kn1, kc1, ha1, hcl1, hca1⟩ := KCN.out 1 (by omega)
            have hxw1 : ex.toL[1].1.w = ex.ws.getD 1 0 := (ws_get ex 1 (by omega)).symm
            have hlt1 := evL_lt HOK.out HWX.out.1 1 (by omega)
            rw [E] at hxw1 hlt1
            simp only [List.getD_cons_zero, List.getD_cons_succ, kw] at hxw1 hlt1
            obtain ⟨rfl, rfl⟩ : b = b1 ∧ o = o1 := by simpa using ha1
            clear ha1
            generalize ex.toL[0].1 = x0 at *
            have HCA0 := Hid.mk hca0
            have HCL0 := Hid.mk hcl0
            generalize ex.toL[1].1 = x1 at *
            have HCA1 := Hid.mk hca1
            have HCL1 := Hid.mk hcl1
            have HAF : Hid (anyF (evL ex S) = (kf (evL ex S) 0 || kf (evL ex S) 1)) := Hid.mk (by
              have hl9 := evL_len ex S
              rw [hexl] at hl9
              generalize evL ex S = ee at *
              match ee, hl9 with
              | [a, b], _ => simp [anyF, kf])
            clear hca0 hcl0 hca1 hcl1 hexl KCN
            obtain ⟨c0, c1, c2, c3⟩ := hcc
            obtain ⟨C, hC⟩ : ∃ C : Nat, f.c = C := ⟨f.c.toNat, by omega⟩
            obtain ⟨A, hA⟩ : ∃ A : Nat, a0 = A := ⟨a0.toNat, by omega⟩
            have hLm : (cs.map (·.w)).length = cs.length := List.length_map _
            have EQ : Hid (S9 = if sgn (kv (evL ex S) 0) A < 0 ∨ f.l ≤ sgn (kv (evL ex S) 0) A then ⟨S.cells, true⟩ else ⟨(S.put ((C : Int) + sgn (kv (evL ex S) 0) A).toNat (kv (evL ex S) 1)).cells, S.fault || (kf (evL ex S) 0 || kf (evL ex S) 1)⟩) := Hid.mk (by rw [HEXO.out]; simp only [exOne, kd, HAF.out, hC, E, kw, List.getD_cons_zero, hA, Int.toNat_natCast]; rfl)
            have SG := signed_c (kv (evL ex S) 0) A (by rw [hA] at hlt0; simpa using hlt0.2.2) (by omega) (by omega)
            have hsb := sgn_lo (v := kv (evL ex S) 0) (w := A) (by omega) (by rw [hA] at hlt0; simpa using hlt0.2.2)
            have hpb : (2 : Int) ^ (A - 1) ≤ 9223372036854775808 := two_le (show A - 1 ≤ 63 by omega)
            have HX0 : Hid (x0.w = (A : Int)) := Hid.mk (by rw [hxw0, hA])
            rw [← HX0.out] at SG
            have HCL9 : Hid (∀ J : Nat, (J : Int) < f.l → C + J < S.cells.length ∧ C + J ≤ 1000000) := Hid.mk (fun J hJ => by have := HSL.out; omega)
            generalize kv (evL ex S) 0 = n0 at *
            generalize kf (evL ex S) 0 = f0 at *
            generalize kv (evL ex S) 1 = n1 at *
            generalize kf (evL ex S) 1 = f1 at *
            have HSS0 : Hid (∀ Z, Keep V Z → Z.cell? ⟨gQ, 5, none⟩ = some (.slice (some ⟨b, o, none⟩) ex.len ec) ∧ Z.cell? ⟨b, o, none⟩ = some (.int .i64 x0.k) ∧ Z.cell? ⟨b, o + 1, none⟩ = some (.int .i64 x0.w) ∧ Z.cell? ⟨b, o + 2, none⟩ = some (.int .i64 x0.o) ∧ Z.cell? ⟨b, o + 3, none⟩ = some (.int .u64 (x0.v : Nat)) ∧ Z.cell? ⟨b, o + 4, none⟩ = some (.int .i64 x0.c) ∧ Z.cell? ⟨b, o + 5, none⟩ = some (.int .i64 x0.l) ∧ Z.cell? ⟨b, o + 6, none⟩ = some (.slice kx0 kn0 kc0) ∧ Z.cell? ⟨gS, 0, none⟩ = some (.slice ca S.cells.length cap) ∧ Z.cell? ⟨gS, 1, none⟩ = some (.bool S.fault)) := Hid.mk (fun Z kz => by
              obtain ⟨hd9, hq9⟩ := HDS.out Z (Fr.keep kz)
              obtain ⟨q0, q1, q2, q3, q4, q5, q6, q7⟩ := sfC_cells hq9
              obtain ⟨s0, s1, -⟩ := (HSV.out.keep kz).fs
              have g := HCL0.out Z (Fr.keep kz)
              have g0 := g 0 (by decide)
              have g1 := g 1 (by decide)
              have g2 := g 2 (by decide)
              have g3 := g 3 (by decide)
              have g4 := g 4 (by decide)
              have g5 := g 5 (by decide)
              have g6 := g 6 (by decide)
              simp only [efC, List.getElem?_cons_zero, List.getElem?_cons_succ, Nat.zero_mul, Nat.one_mul, Nat.reduceMul, Nat.add_zero] at g0 g1 g2 g3 g4 g5 g6
              exact ⟨q5, g0, g1, g2, g3, g4, g5, g6, s0, s1⟩)
            have HSS1 : Hid (∀ Z, Keep V Z → Z.cell? ⟨gQ, 5, none⟩ = some (.slice (some ⟨b, o, none⟩) ex.len ec) ∧ Z.cell? ⟨b, o + 7, none⟩ = some (.int .i64 x1.k) ∧ Z.cell? ⟨b, o + 7 + 1, none⟩ = some (.int .i64 x1.w) ∧ Z.cell? ⟨b, o + 7 + 2, none⟩ = some (.int .i64 x1.o) ∧ Z.cell? ⟨b, o + 7 + 3, none⟩ = some (.int .u64 (x1.v : Nat)) ∧ Z.cell? ⟨b, o + 7 + 4, none⟩ = some (.int .i64 x1.c) ∧ Z.cell? ⟨b, o + 7 + 5, none⟩ = some (.int .i64 x1.l) ∧ Z.cell? ⟨b, o + 7 + 6, none⟩ = some (.slice kx1 kn1 kc1) ∧ Z.cell? ⟨gS, 0, none⟩ = some (.slice ca S.cells.length cap) ∧ Z.cell? ⟨gS, 1, none⟩ = some (.bool S.fault)) := Hid.mk (fun Z kz => by
              obtain ⟨hd9, hq9⟩ := HDS.out Z (Fr.keep kz)
              obtain ⟨q0, q1, q2, q3, q4, q5, q6, q7⟩ := sfC_cells hq9
              obtain ⟨s0, s1, -⟩ := (HSV.out.keep kz).fs
              have g := HCL1.out Z (Fr.keep kz)
              have g0 := g 0 (by decide)
              have g1 := g 1 (by decide)
              have g2 := g 2 (by decide)
              have g3 := g 3 (by decide)
              have g4 := g 4 (by decide)
              have g5 := g 5 (by decide)
              have g6 := g 6 (by decide)
              simp only [efC, List.getElem?_cons_zero, List.getElem?_cons_succ, Nat.zero_mul, Nat.one_mul, Nat.reduceMul, Nat.add_zero] at g0 g1 g2 g3 g4 g5 g6
              exact ⟨q5, g0, g1, g2, g3, g4, g5, g6, s0, s1⟩)
            generalize sgn n0 A = sg at *
            have sg1 : -9223372036854775808 ≤ sg := by omega
            have sg2 : sg ≤ 9223372036854775807 := by omega
            rw [kd] at q0
            have HHC := Hid.mk hC
            have HSG := Hid.mk SG
            clear kd E c0 c1 c2 c3 hC hA hxw0 hlt0 hxw1 hlt1 SG hsb hpb hLm
            go_wp2_with fail
            go_region_held3 (fun w' => w'.cell? ⟨gQ, 5, none⟩ = some (.slice (some ⟨b, o, none⟩) ex.len ec) ∧ w'.cell? ⟨b, o, none⟩ = some (.int .i64 x0.k) ∧ w'.cell? ⟨b, o + 1, none⟩ = some (.int .i64 x0.w) ∧ w'.cell? ⟨b, o + 2, none⟩ = some (.int .i64 x0.o) ∧ w'.cell? ⟨b, o + 3, none⟩ = some (.int .u64 (x0.v : Nat)) ∧ w'.cell? ⟨b, o + 4, none⟩ = some (.int .i64 x0.c) ∧ w'.cell? ⟨b, o + 5, none⟩ = some (.int .i64 x0.l) ∧ w'.cell? ⟨b, o + 6, none⟩ = some (.slice kx0 kn0 kc0) ∧ w'.cell? ⟨gS, 0, none⟩ = some (.slice ca S.cells.length cap) ∧ w'.cell? ⟨gS, 1, none⟩ = some (.bool S.fault)) (first | exact HSS0.out _ ((Keep.refl V).drew) | exact HSS0.out _ ((Keep.refl V).drew.trans k2)) (first | (go_at_call 36; refine (HCA0.out _ (Fr.keep (Keep.refl V).drew) (HSV.out.keep (Keep.refl V).drew).vs).mono ?_; rintro e w2 ⟨rfl, k2⟩))
            rename_i hHd
            clear hHd
            have HKw2 := Hid.mk ((Keep.refl V).drew.trans k2)
            clear k2
            go_wp2_with fail
            go_region_held3 (fun w' => w'.cell? ⟨gQ, 5, none⟩ = some (.slice (some ⟨b, o, none⟩) ex.len ec) ∧ w'.cell? ⟨b, o + 7, none⟩ = some (.int .i64 x1.k) ∧ w'.cell? ⟨b, o + 7 + 1, none⟩ = some (.int .i64 x1.w) ∧ w'.cell? ⟨b, o + 7 + 2, none⟩ = some (.int .i64 x1.o) ∧ w'.cell? ⟨b, o + 7 + 3, none⟩ = some (.int .u64 (x1.v : Nat)) ∧ w'.cell? ⟨b, o + 7 + 4, none⟩ = some (.int .i64 x1.c) ∧ w'.cell? ⟨b, o + 7 + 5, none⟩ = some (.int .i64 x1.l) ∧ w'.cell? ⟨b, o + 7 + 6, none⟩ = some (.slice kx1 kn1 kc1) ∧ w'.cell? ⟨gS, 0, none⟩ = some (.slice ca S.cells.length cap) ∧ w'.cell? ⟨gS, 1, none⟩ = some (.bool S.fault)) (first | exact HSS1.out _ (HKw2.out.drew) | exact HSS1.out _ (HKw2.out.drew.trans k2)) (first | (go_at_call 36; refine (HCA1.out _ (Fr.keep HKw2.out.drew) (HSV.out.keep HKw2.out.drew).vs).mono ?_; rintro e w3 ⟨rfl, k2⟩))
            rename_i hHd
            clear hHd
            have HKw3 := Hid.mk (HKw2.out.drew.trans k2)
            clear k2
            have ST3 := HSV.out.keep HKw3.out
            have HST3 := Hid.mk ST3
            obtain ⟨hd9, hq9⟩ := HDS.out w3 (Fr.keep HKw3.out)
            obtain ⟨d0, d1, d2, d3, d4, d5, d6, d7, d8⟩ := prC_cells hd9
            obtain ⟨q0, q1, q2, q3, q4, q5, q6, q7⟩ := sfC_cells hq9
            obtain ⟨s0, s1, sf⟩ := (ST3).fs
            clear hd9 hq9
            rw [HHC.out] at q1
            have kw0 := (HSS0.out w3 HKw3.out).2.2.1
            have ne1 : gC ≠ gS := Ne.symm HSV.out.ne
            have ne2 : gC ≠ gQ := fun e => HQN.out (Or.inr e.symm)
            have ne3 : gS ≠ gQ := fun e => HQN.out (Or.inl e.symm)
            clear ST3
            go_wp2_with fail
            refine (HSG.out _).mono ?_
            rintro e y ⟨rfl, hy⟩
            subst hy
            by_cases sn : sg < 0
            · rw [if_pos (Or.inl sn)] at EQ
              have ST4 := HST3.out.flt true
              have ST5 := ST4.flt true
              have HST5 := Hid.mk ST5
              clear ST4 ST5
              go_wp2_with fail
              refine Handed.intro (t.toL.length - (k + 1)) (by have := HK.out; omega) ?_
              go_step
              refine InvF.of (by rfl) rfl ⟨k + 1, by have := HK.out; omega, by first | rfl | (show Value.int _ _ = _; go_num), HFV.out.trans (((Fr.keep HKw3.out).trans (frS _ gS gC _)).trans (frS _ gS gC _)), ?_, rfl, rfl, rfl, rfl, rfl, rfl⟩
              rw [HF.out, EQ.out]
              exact HST5.out
            · by_cases sl : f.l ≤ sg
              · have sn2 : 0 ≤ sg := by omega
                rw [if_pos (Or.inr sl)] at EQ
                have ST4 := HST3.out.flt true
                have ST5 := ST4.flt true
                have HST5 := Hid.mk ST5
                clear ST4 ST5
                go_wp2_with fail
                refine Handed.intro (t.toL.length - (k + 1)) (by have := HK.out; omega) ?_
                go_step
                refine InvF.of (by rfl) rfl ⟨k + 1, by have := HK.out; omega, by first | rfl | (show Value.int _ _ = _; go_num), HFV.out.trans (((Fr.keep HKw3.out).trans (frS _ gS gC _)).trans (frS _ gS gC _)), ?_, rfl, rfl, rfl, rfl, rfl, rfl⟩
                rw [HF.out, EQ.out]
                exact HST5.out
              · rw [if_neg (by omega)] at EQ
                obtain ⟨J, rfl⟩ : ∃ J : Nat, sg = J := ⟨sg.toNat, by omega⟩
                obtain ⟨hCJ, hCJ2⟩ := HCL9.out J (by omega)
                rw [show ((C : Int) + (J : Int)).toNat = C + J by omega] at EQ
                obtain ⟨hca9, cC, fC⟩ := HST3.out.cell hCJ
                subst hca9
                have HST4 := Hid.mk (HST3.out.put hCJ n1)
                have m1 : (C : Int) + J < S.cells.length := by omega
                have m2 : (0 : Int) ≤ (C : Int) + J := by omega
                have m3 : ¬ (J : Int) < 0 := by omega
                have m4 : (J : Int) < f.l := by omega
                have mw : IntKind.i64.wrap ((C : Int) + J) = (C : Int) + J := by rw [IntKind.wrap_i64]; omega
                have mt : ((C : Int) + J).toNat = C + J := by omega
                clear sn sl hCJ hCJ2
                go_wp2_with fail
                go_region_held3 (fun w' => w'.cell? ⟨gS, 0, none⟩ = some (.slice (some ⟨gC, 0, none⟩) S.cells.length cap) ∧ w'.cell? ⟨gQ, 1, none⟩ = some (.int .i64 (C : Int))) (first | exact ⟨s0, q1⟩ | go_keep) (fail)
                rename_i hHd
                clear hHd
                obtain ⟨w4, hw9⟩ : ∃ w4, w4 = (y.setCell ⟨gC, C + J, none⟩ (.int .u64 (n1 : Int))).drew := ⟨_, rfl⟩
                rw [← hw9]
                have STw4 : StM w4 gS gC (some ⟨gC, 0, none⟩) cap sp (S.put (C + J) n1) := by rw [hw9]; exact HST4.out.keep ((Keep.refl _).drew)
                have FRw4 : Fr (pS gS gC) V w4 := by rw [hw9]; exact ((Fr.keep HKw3.out).trans (frC _ gS gC _ _)).trans (Fr.keep ((Keep.refl _).drew))
                have HSTw4 := Hid.mk STw4
                have HFRw4 := Hid.mk FRw4
                clear hw9 s0 s1 sf q0 q1 q2 q3 q4 q5 q6 q7 d0 d1 d2 d3 d4 d5 d6 d7 d8 cC fC kw0
                obtain ⟨s0, s1, sf⟩ := HSTw4.out.fs
                simp only [PS.put] at s0 s1
                rcases Bool.eq_false_or_eq_true S.fault with hs | hs
                · have HFS := Hid.mk hs
                  rw [hs] at s1
                  clear hs
                  go_wp2_with fail
                  refine Handed.intro (t.toL.length - (k + 1)) (by have := HK.out; omega) ?_
                  go_step
                  refine InvF.of (by rfl) rfl ⟨k + 1, by have := HK.out; omega, by first | rfl | (show Value.int _ _ = _; go_num), HFV.out.trans (HFRw4.out.trans (frS _ gS gC _)), ?_, rfl, rfl, rfl, rfl, rfl, rfl⟩
                  rw [HF.out, EQ.out, HFS.out]
                  exact HSTw4.out.flt _
                · have HFS := Hid.mk hs
                  rw [hs] at s1
                  clear hs
                  cases f0
                  all_goals
                    go_wp2_with fail
                    refine Handed.intro (t.toL.length - (k + 1)) (by have := HK.out; omega) ?_
                    go_step
                    refine InvF.of (by rfl) rfl ⟨k + 1, by have := HK.out; omega, by first | rfl | (show Value.int _ _ = _; go_num), HFV.out.trans (HFRw4.out.trans (frS _ gS gC _)), ?_, rfl, rfl, rfl, rfl, rfl, rfl⟩
                    rw [HF.out, EQ.out, HFS.out]
                    exact HSTw4.out.flt _
        · as_aux_lemma =>
            have hexl : ex.toL.length = 1 := by have := ws_len ex; rw [E] at this; simpa [EL.len] using this.symm
            have hexi : (ex.len : Int) = 1 := by unfold EL.len; omega
            obtain ⟨b, o, kx0, kn0, kc0, ha0, hcl0, hca0⟩ := KCN.out 0 (by omega)
            have hxw0 : ex.toL[0].1.w = ex.ws.getD 0 0 := (ws_get ex 0 (by omega)).symm
            have hlt0 := evL_lt HOK.out HWX.out.1 0 (by omega)
            rw [E] at hxw0 hlt0
            simp only [List.getD_cons_zero, List.getD_cons_succ, kw] at hxw0 hlt0
            subst ha0
            generalize ex.toL[0].1 = x0 at *
            have HCA0 := Hid.mk hca0
            have HCL0 := Hid.mk hcl0
            have HAF : Hid (anyF (evL ex S) = (kf (evL ex S) 0)) := Hid.mk (by
              have hl9 := evL_len ex S
              rw [hexl] at hl9
              generalize evL ex S = ee at *
              match ee, hl9 with
              | [a], _ => simp [anyF, kf])
            clear hca0 hcl0 hexl KCN
            have EQ : Hid (S9 = if kv (evL ex S) 0 = 1 then exL (cs.map (·.w)) th ⟨S.cells, S.fault || kf (evL ex S) 0⟩ else exL (cs.map (·.w)) el ⟨S.cells, S.fault || kf (evL ex S) 0⟩) := Hid.mk (by rw [HEXO.out]; simp only [exOne, kd, HAF.out]; simp)
            generalize kv (evL ex S) 0 = n0 at *
            generalize kf (evL ex S) 0 = f0 at *
            have HSS0 : Hid (∀ Z, Keep V Z → Z.cell? ⟨gQ, 5, none⟩ = some (.slice (some ⟨b, o, none⟩) ex.len ec) ∧ Z.cell? ⟨b, o, none⟩ = some (.int .i64 x0.k) ∧ Z.cell? ⟨b, o + 1, none⟩ = some (.int .i64 x0.w) ∧ Z.cell? ⟨b, o + 2, none⟩ = some (.int .i64 x0.o) ∧ Z.cell? ⟨b, o + 3, none⟩ = some (.int .u64 (x0.v : Nat)) ∧ Z.cell? ⟨b, o + 4, none⟩ = some (.int .i64 x0.c) ∧ Z.cell? ⟨b, o + 5, none⟩ = some (.int .i64 x0.l) ∧ Z.cell? ⟨b, o + 6, none⟩ = some (.slice kx0 kn0 kc0) ∧ Z.cell? ⟨gS, 0, none⟩ = some (.slice ca S.cells.length cap) ∧ Z.cell? ⟨gS, 1, none⟩ = some (.bool S.fault)) := Hid.mk (fun Z kz => by
              obtain ⟨hd9, hq9⟩ := HDS.out Z (Fr.keep kz)
              obtain ⟨q0, q1, q2, q3, q4, q5, q6, q7⟩ := sfC_cells hq9
              obtain ⟨s0, s1, -⟩ := (HSV.out.keep kz).fs
              have g := HCL0.out Z (Fr.keep kz)
              have g0 := g 0 (by decide)
              have g1 := g 1 (by decide)
              have g2 := g 2 (by decide)
              have g3 := g 3 (by decide)
              have g4 := g 4 (by decide)
              have g5 := g 5 (by decide)
              have g6 := g 6 (by decide)
              simp only [efC, List.getElem?_cons_zero, List.getElem?_cons_succ, Nat.zero_mul, Nat.one_mul, Nat.reduceMul, Nat.add_zero] at g0 g1 g2 g3 g4 g5 g6
              exact ⟨q5, g0, g1, g2, g3, g4, g5, g6, s0, s1⟩)
            rw [kd] at q0
            have HT := Hid.mk hT
            have HE := Hid.mk hE
            clear kd E hxw0 hlt0 hT hE
            go_wp2_with fail
            go_region_held3 (fun w' => w'.cell? ⟨gQ, 5, none⟩ = some (.slice (some ⟨b, o, none⟩) ex.len ec) ∧ w'.cell? ⟨b, o, none⟩ = some (.int .i64 x0.k) ∧ w'.cell? ⟨b, o + 1, none⟩ = some (.int .i64 x0.w) ∧ w'.cell? ⟨b, o + 2, none⟩ = some (.int .i64 x0.o) ∧ w'.cell? ⟨b, o + 3, none⟩ = some (.int .u64 (x0.v : Nat)) ∧ w'.cell? ⟨b, o + 4, none⟩ = some (.int .i64 x0.c) ∧ w'.cell? ⟨b, o + 5, none⟩ = some (.int .i64 x0.l) ∧ w'.cell? ⟨b, o + 6, none⟩ = some (.slice kx0 kn0 kc0) ∧ w'.cell? ⟨gS, 0, none⟩ = some (.slice ca S.cells.length cap) ∧ w'.cell? ⟨gS, 1, none⟩ = some (.bool S.fault)) (first | exact HSS0.out _ ((Keep.refl V).drew) | exact HSS0.out _ ((Keep.refl V).drew.trans k2)) (first | (go_at_call 36; refine (HCA0.out _ (Fr.keep (Keep.refl V).drew) (HSV.out.keep (Keep.refl V).drew).vs).mono ?_; rintro e w2 ⟨rfl, k2⟩))
            rename_i hHd
            clear hHd
            have HKw2 := Hid.mk ((Keep.refl V).drew.trans k2)
            clear k2
            have ST2 := HSV.out.keep HKw2.out
            have HST2 := Hid.mk ST2
            obtain ⟨hd9, hq9⟩ := HDS.out w2 (Fr.keep HKw2.out)
            obtain ⟨d0, d1, d2, d3, d4, d5, d6, d7, d8⟩ := prC_cells hd9
            obtain ⟨q0, q1, q2, q3, q4, q5, q6, q7⟩ := sfC_cells hq9
            obtain ⟨s0, s1, sf⟩ := (ST2).fs
            clear hd9 hq9
            have ne1 : gC ≠ gS := Ne.symm HSV.out.ne
            have ne2 : gC ≠ gQ := fun e => HQN.out (Or.inr e.symm)
            have ne3 : gS ≠ gQ := fun e => HQN.out (Or.inl e.symm)
            have ne4 : gS ≠ gP := fun e => HPN.out (Or.inl e.symm)
            clear ST2
            rcases Bool.eq_false_or_eq_true S.fault with hs | hs
            · rw [hs] at s1 EQ
              simp only [Bool.true_or, Bool.false_or] at EQ
              clear hs
              by_cases z : n0 = 1
              · subst z
                rw [if_pos rfl] at EQ
                have CX := HTH.out (w2.setCell ⟨gS, 1, none⟩ (.bool true)) ⟨S.cells, true⟩ ((Fr.keep HKw2.out).trans (frS _ gS gC _)) HT.out (HST2.out.flt true) (flt_ok HOK.out _)
                go_wp2_with fail
                refine CX.mono ?_
                rintro e w4 ⟨rfl, ST4, FR4⟩
                have HST4 := Hid.mk ST4
                have HFR4 := Hid.mk (((Fr.keep HKw2.out).trans (frS _ gS gC _)).trans FR4)
                clear CX ST4 FR4
                go_wp2_with fail
                refine Handed.intro (t.toL.length - (k + 1)) (by have := HK.out; omega) ?_
                go_step
                refine InvF.of (by rfl) rfl ⟨k + 1, by have := HK.out; omega, by first | rfl | (show Value.int _ _ = _; go_num), HFV.out.trans HFR4.out, ?_, rfl, rfl, rfl, rfl, rfl, rfl⟩
                rw [HF.out, EQ.out]
                exact HST4.out
              · rw [if_neg z] at EQ
                have z2 : ((n0 : Int) == 1) = false := by simp; omega
                clear z
                have CX := HEE.out (w2.setCell ⟨gS, 1, none⟩ (.bool true)) ⟨S.cells, true⟩ ((Fr.keep HKw2.out).trans (frS _ gS gC _)) HE.out (HST2.out.flt true) (flt_ok HOK.out _)
                go_wp2_with fail
                refine CX.mono ?_
                rintro e w4 ⟨rfl, ST4, FR4⟩
                have HST4 := Hid.mk ST4
                have HFR4 := Hid.mk (((Fr.keep HKw2.out).trans (frS _ gS gC _)).trans FR4)
                clear CX ST4 FR4
                go_wp2_with fail
                refine Handed.intro (t.toL.length - (k + 1)) (by have := HK.out; omega) ?_
                go_step
                refine InvF.of (by rfl) rfl ⟨k + 1, by have := HK.out; omega, by first | rfl | (show Value.int _ _ = _; go_num), HFV.out.trans HFR4.out, ?_, rfl, rfl, rfl, rfl, rfl, rfl⟩
                rw [HF.out, EQ.out]
                exact HST4.out
            · rw [hs] at s1 EQ
              simp only [Bool.true_or, Bool.false_or] at EQ
              clear hs
              by_cases z : n0 = 1
              · subst z
                rw [if_pos rfl] at EQ
                have CX := HTH.out (w2.setCell ⟨gS, 1, none⟩ (.bool f0)) ⟨S.cells, f0⟩ ((Fr.keep HKw2.out).trans (frS _ gS gC _)) HT.out (HST2.out.flt f0) (flt_ok HOK.out _)
                go_wp2_with fail
                refine CX.mono ?_
                rintro e w4 ⟨rfl, ST4, FR4⟩
                have HST4 := Hid.mk ST4
                have HFR4 := Hid.mk (((Fr.keep HKw2.out).trans (frS _ gS gC _)).trans FR4)
                clear CX ST4 FR4
                go_wp2_with fail
                refine Handed.intro (t.toL.length - (k + 1)) (by have := HK.out; omega) ?_
                go_step
                refine InvF.of (by rfl) rfl ⟨k + 1, by have := HK.out; omega, by first | rfl | (show Value.int _ _ = _; go_num), HFV.out.trans HFR4.out, ?_, rfl, rfl, rfl, rfl, rfl, rfl⟩
                rw [HF.out, EQ.out]
                exact HST4.out
              · rw [if_neg z] at EQ
                have z2 : ((n0 : Int) == 1) = false := by simp; omega
                clear z
                have CX := HEE.out (w2.setCell ⟨gS, 1, none⟩ (.bool f0)) ⟨S.cells, f0⟩ ((Fr.keep HKw2.out).trans (frS _ gS gC _)) HE.out (HST2.out.flt f0) (flt_ok HOK.out _)
                go_wp2_with fail
                refine CX.mono ?_
                rintro e w4 ⟨rfl, ST4, FR4⟩
                have HST4 := Hid.mk ST4
                have HFR4 := Hid.mk (((Fr.keep HKw2.out).trans (frS _ gS gC _)).trans FR4)
                clear CX ST4 FR4
                go_wp2_with fail
                refine Handed.intro (t.toL.length - (k + 1)) (by have := HK.out; omega) ?_
                go_step
                refine InvF.of (by rfl) rfl ⟨k + 1, by have := HK.out; omega, by first | rfl | (show Value.int _ _ = _; go_num), HFV.out.trans HFR4.out, ?_, rfl, rfl, rfl, rfl, rfl, rfl⟩
                rw [HF.out, EQ.out]
                exact HST4.out
        · as_aux_lemma =>
            have hexl : ex.toL.length = 0 := by have := ws_len ex; rw [E] at this; simpa [EL.len] using this.symm
            have hexi : (ex.len : Int) = 0 := by unfold EL.len; omega
            have HAF : Hid (anyF (evL ex S) = (false)) := Hid.mk (by
              have hl9 := evL_len ex S
              rw [hexl] at hl9
              generalize evL ex S = ee at *
              match ee, hl9 with
              | [], _ => rfl)
            clear hexl KCN
            obtain ⟨c0, c1, c2, c3⟩ := hcc
            obtain ⟨C, hC⟩ : ∃ C : Nat, f.c = C := ⟨f.c.toNat, by omega⟩
            have hLm : (cs.map (·.w)).length = cs.length := List.length_map _
            have hCs : C < cs.length := by omega
            have hCl : C < S.cells.length := by have := HSL.out; omega
            have hwd : (cs.map (·.w)).getD C 0 = cs[C].w := by rw [List.getD_eq_getElem?_getD, List.getElem?_map, List.getElem?_eq_getElem hCs]; rfl
            have hwb := HCW.out _ (List.getElem_mem hCs)
            obtain ⟨pb, po, hpa, hPpb, -, hrow⟩ := Rows.cell (show Rows P V (.slice pa cs.length pc) 5 (cs.map celC) from HCV.out) (i := C) (by simpa using hCs)
            subst hpa
            obtain ⟨D, hD⟩ : ∃ D : Nat, cs[C].w = D := ⟨cs[C].w.toNat, by omega⟩
            have hD64 : D ≤ 64 := by omega
            have HPD : Hid (∀ Z, Fr (pS gS gC) V Z → Z.cell? ⟨pb, po + C * 5, none⟩ = some (.int .i64 (D : Int))) := Hid.mk (fun Z fz => by
              obtain ⟨pb', po', hp', h9⟩ := (HCV.out.step (HKPZ.out Z fz)).cell hCs
              injection hp' with hp'
              injection hp' with e1 e2
              subst e1 e2
              have h8 := h9 0 (by decide)
              rw [Nat.add_zero] at h8
              rw [h8]
              simp [celC, hD])
            have hkw : kw (cs.map (·.w)) C = D := by unfold kw; rw [hwd, hD]; rfl
            have EQ : Hid (S9 = (List.range (itN f.a f.b)).foldl (fun S (k : Nat) => exL (cs.map (·.w)) th (S.put C ((f.a + (k : Int)) % 2 ^ D).toNat)) S) := Hid.mk (by rw [HEXO.out]; simp only [exOne, kd, HAF.out, hC, Bool.or_false, Int.toNat_natCast, hkw]; rfl)
            have HIT : Hid (∀ Z, Calls Try.prog 38 #[.agg #[.int .i64 f.k, .int .i64 f.c, .int .i64 f.l, .int .i64 f.a, .int .i64 f.b, .slice ea ex.len ec, .slice ta tr.length tc, .slice la lr.length lc]] Z fun e w' => e = .returned (.int .i64 ((itN f.a f.b : Nat) : Int)) ∧ Keep Z w') := Hid.mk (fun Z => iter_c f HSF.out ⟨_, _, _, rfl⟩ ⟨_, _, _, rfl⟩ ⟨_, _, _, rfl⟩ Z)
            have hitl : itN f.a f.b ≤ 4097 := by unfold itN; split <;> (try split) <;> omega
            have HAB : Hid (∀ j : Nat, j < itN f.a f.b → f.a + j ≤ f.b) := Hid.mk (fun j hj => by
              unfold itN at hj
              split at hj
              · omega
              · split at hj <;> omega)
            have HLW : Hid (∀ z : Int, Pure1 39 #[.int .u64 (IntKind.u64.wrap z), .int .i64 (D : Nat)] (.int .u64 (((z % 2 ^ D).toNat : Nat) : Int))) := Hid.mk (fun z => low_i z hD64)
            have HSTP : Hid (∀ S' (j : Nat), StOK (cs.map (·.w)) S' → StOK (cs.map (·.w)) (S'.put C ((f.a + (j : Int)) % 2 ^ D).toNat)) := Hid.mk (fun S' j hS' => PS.put_ok hS' (fun _ => by
              rw [hwd, hD, Int.toNat_natCast]
              have hc9 : ((2 ^ D : Nat) : Int) = (2 : Int) ^ D := by push_cast; rfl
              have hp9 := Nat.two_pow_pos D
              rw [← hc9]
              have h2 := Int.emod_lt_of_pos (f.a + (j : Int)) (b := ((2 ^ D : Nat) : Int)) (by omega)
              have h3 := Int.emod_nonneg (f.a + (j : Int)) (b := ((2 ^ D : Nat) : Int)) (by omega)
              omega))
            have HNP : Hid (gC ≠ pb) := Hid.mk (fun e => HPS.out pb hPpb (Or.inr e.symm))
            have HT := Hid.mk hT
            have HHC := Hid.mk hC
            have HCC := Hid.mk hCl
            have hab := HSF.out.b
            have haa := HSF.out.a
            unfold I64 at hab haa
            have HAA := Hid.mk (And.intro haa hab)
            obtain ⟨hca9, -, -⟩ := HSV.out.cell hCl
            subst hca9
            rw [kd] at q0
            rw [hC] at q1
            have hci : (C : Int) < cs.length := by omega
            have hci0 : (0 : Int) ≤ C := by omega
            clear kd E c0 c1 c2 c3 hC hCl hwd hwb hD hD64 hkw hT hrow hPpb hab haa hLm hCs
            go_wp2_with fail
            refine wp_loop_frm 523 (fun gk2 g2 wr => ∃ (j : Nat), j + gk2 = itN f.a f.b ∧ g2 17 = .int .i64 (j : Int) ∧ Fr (pS gS gC) V wr ∧ StM wr gS gC (some ⟨gC, 0, none⟩) cap sp ((List.range j).foldl (fun S (k : Nat) => exL (cs.map (·.w)) th (S.put C ((f.a + (k : Int)) % 2 ^ D).toNat)) S) ∧ StOK (cs.map (·.w)) ((List.range j).foldl (fun S (k : Nat) => exL (cs.map (·.w)) th (S.put C ((f.a + (k : Int)) % 2 ^ D).toNat)) S) ∧ g2 0 = .agg #[.slice (some ⟨pb, po, none⟩) cs.length pc, .slice ba bn bc, .int .i64 fb.k, .int .i64 fb.w, .int .i64 fb.o, .int .u64 (fb.v : Nat), .int .i64 fb.c, .int .i64 fb.l, .slice ka kn kc] ∧ g2 1 = .slice (some ⟨b, o, none⟩) t.toL.length vc ∧ g2 2 = .pointer (some ⟨gS, 0, none⟩) ∧ g2 3 = .pointer (some ⟨gP, 0, none⟩) ∧ g2 7 = .pointer (some ⟨gQ, 0, none⟩) ∧ g2 37 = .slice (some ⟨b, o, none⟩) t.toL.length vc ∧ g2 38 = .int .i64 (t.toL.length : Int) ∧ g2 39 = .int .i64 (k : Int)) (itN f.a f.b) (by rfl) rfl ?_ ?_
            · exact ⟨0, by omega, rfl, Fr.refl _ V, HSV.out, HOK.out, rfl, rfl, rfl, rfl, rfl, rfl, rfl, rfl⟩
            · intro gk2 g2 wi hrel2 J2 K2 hJ2 hK2
              obtain ⟨j, hj, g17, fr, st, ok, g0, g1, g2', g3, g7, g37, g38, g39⟩ := hrel2
              rw [show frm 523 g2 = ⟨#[g2 0, g2 1, g2 2, g2 3, g2 4, g2 5, g2 6, g2 7, g2 8, g2 9, g2 10, g2 11, g2 12, g2 13, g2 14, g2 15, g2 16, g2 17, g2 18, g2 19, g2 20, g2 21, g2 22, g2 23, g2 24, g2 25, g2 26, g2 27, g2 28, g2 29, g2 30, g2 31, g2 32, g2 33, g2 34, g2 35, g2 36, g2 37, g2 38, g2 39, g2 40, g2 41, g2 42, g2 43, g2 44, g2 45, g2 46, g2 47, g2 48, g2 49, g2 50, g2 51, g2 52, g2 53, g2 54, g2 55, g2 56, g2 57, g2 58, g2 59, g2 60, g2 61, g2 62, g2 63, g2 64, g2 65, g2 66, g2 67, g2 68, g2 69, g2 70, g2 71, g2 72, g2 73, g2 74, g2 75, g2 76, g2 77, g2 78, g2 79, g2 80, g2 81, g2 82, g2 83, g2 84, g2 85, g2 86, g2 87, g2 88, g2 89, g2 90, g2 91, g2 92, g2 93, g2 94, g2 95, g2 96, g2 97, g2 98, g2 99, g2 100, g2 101, g2 102, g2 103, g2 104, g2 105, g2 106, g2 107, g2 108, g2 109, g2 110, g2 111, g2 112, g2 113, g2 114, g2 115, g2 116, g2 117, g2 118, g2 119, g2 120, g2 121, g2 122, g2 123, g2 124, g2 125, g2 126, g2 127, g2 128, g2 129, g2 130, g2 131, g2 132, g2 133, g2 134, g2 135, g2 136, g2 137, g2 138, g2 139, g2 140, g2 141, g2 142, g2 143, g2 144, g2 145, g2 146, g2 147, g2 148, g2 149, g2 150, g2 151, g2 152, g2 153, g2 154, g2 155, g2 156, g2 157, g2 158, g2 159, g2 160, g2 161, g2 162, g2 163, g2 164, g2 165, g2 166, g2 167, g2 168, g2 169, g2 170, g2 171, g2 172, g2 173, g2 174, g2 175, g2 176, g2 177, g2 178, g2 179, g2 180, g2 181, g2 182, g2 183, g2 184, g2 185, g2 186, g2 187, g2 188, g2 189, g2 190, g2 191, g2 192, g2 193, g2 194, g2 195, g2 196, g2 197, g2 198, g2 199, g2 200, g2 201, g2 202, g2 203, g2 204, g2 205, g2 206, g2 207, g2 208, g2 209, g2 210, g2 211, g2 212, g2 213, g2 214, g2 215, g2 216, g2 217, g2 218, g2 219, g2 220, g2 221, g2 222, g2 223, g2 224, g2 225, g2 226, g2 227, g2 228, g2 229, g2 230, g2 231, g2 232, g2 233, g2 234, g2 235, g2 236, g2 237, g2 238, g2 239, g2 240, g2 241, g2 242, g2 243, g2 244, g2 245, g2 246, g2 247, g2 248, g2 249, g2 250, g2 251, g2 252, g2 253, g2 254, g2 255, g2 256, g2 257, g2 258, g2 259, g2 260, g2 261, g2 262, g2 263, g2 264, g2 265, g2 266, g2 267, g2 268, g2 269, g2 270, g2 271, g2 272, g2 273, g2 274, g2 275, g2 276, g2 277, g2 278, g2 279, g2 280, g2 281, g2 282, g2 283, g2 284, g2 285, g2 286, g2 287, g2 288, g2 289, g2 290, g2 291, g2 292, g2 293, g2 294, g2 295, g2 296, g2 297, g2 298, g2 299, g2 300, g2 301, g2 302, g2 303, g2 304, g2 305, g2 306, g2 307, g2 308, g2 309, g2 310, g2 311, g2 312, g2 313, g2 314, g2 315, g2 316, g2 317, g2 318, g2 319, g2 320, g2 321, g2 322, g2 323, g2 324, g2 325, g2 326, g2 327, g2 328, g2 329, g2 330, g2 331, g2 332, g2 333, g2 334, g2 335, g2 336, g2 337, g2 338, g2 339, g2 340, g2 341, g2 342, g2 343, g2 344, g2 345, g2 346, g2 347, g2 348, g2 349, g2 350, g2 351, g2 352, g2 353, g2 354, g2 355, g2 356, g2 357, g2 358, g2 359, g2 360, g2 361, g2 362, g2 363, g2 364, g2 365, g2 366, g2 367, g2 368, g2 369, g2 370, g2 371, g2 372, g2 373, g2 374, g2 375, g2 376, g2 377, g2 378, g2 379, g2 380, g2 381, g2 382, g2 383, g2 384, g2 385, g2 386, g2 387, g2 388, g2 389, g2 390, g2 391, g2 392, g2 393, g2 394, g2 395, g2 396, g2 397, g2 398, g2 399, g2 400, g2 401, g2 402, g2 403, g2 404, g2 405, g2 406, g2 407, g2 408, g2 409, g2 410, g2 411, g2 412, g2 413, g2 414, g2 415, g2 416, g2 417, g2 418, g2 419, g2 420, g2 421, g2 422, g2 423, g2 424, g2 425, g2 426, g2 427, g2 428, g2 429, g2 430, g2 431, g2 432, g2 433, g2 434, g2 435, g2 436, g2 437, g2 438, g2 439, g2 440, g2 441, g2 442, g2 443, g2 444, g2 445, g2 446, g2 447, g2 448, g2 449, g2 450, g2 451, g2 452, g2 453, g2 454, g2 455, g2 456, g2 457, g2 458, g2 459, g2 460, g2 461, g2 462, g2 463, g2 464, g2 465, g2 466, g2 467, g2 468, g2 469, g2 470, g2 471, g2 472, g2 473, g2 474, g2 475, g2 476, g2 477, g2 478, g2 479, g2 480, g2 481, g2 482, g2 483, g2 484, g2 485, g2 486, g2 487, g2 488, g2 489, g2 490, g2 491, g2 492, g2 493, g2 494, g2 495, g2 496, g2 497, g2 498, g2 499, g2 500, g2 501, g2 502, g2 503, g2 504, g2 505, g2 506, g2 507, g2 508, g2 509, g2 510, g2 511, g2 512, g2 513, g2 514, g2 515, g2 516, g2 517, g2 518, g2 519, g2 520, g2 521, g2 522], []⟩ from rfl, g17, g0, g1, g2', g3, g7, g37, g38, g39]
              clear g17 g0 g1 g2' g3 g7 g37 g38 g39
              have HJ := Hid.mk hj
              have HFRi := Hid.mk fr
              have HSTi := Hid.mk st
              have HOKi := Hid.mk ok
              have HFD : Hid ((List.range (j + 1)).foldl (fun S (k : Nat) => exL (cs.map (·.w)) th (S.put C ((f.a + (k : Int)) % 2 ^ D).toNat)) S = exL (cs.map (·.w)) th (((List.range j).foldl (fun S (k : Nat) => exL (cs.map (·.w)) th (S.put C ((f.a + (k : Int)) % 2 ^ D).toNat)) S).put C ((f.a + (j : Int)) % 2 ^ D).toNat)) := Hid.mk (by rw [List.range_succ, List.foldl_append]; rfl)
              generalize hSj : ((List.range j).foldl (fun S (k : Nat) => exL (cs.map (·.w)) th (S.put C ((f.a + (k : Int)) % 2 ^ D).toNat)) S) = Sj at *
              have HSJ := Hid.mk hSj
              clear hSj
              obtain ⟨hd9, hq9⟩ := HDS.out wi fr
              obtain ⟨d0, d1, d2, d3, d4, d5, d6, d7, d8⟩ := prC_cells hd9
              obtain ⟨q0, q1, q2, q3, q4, q5, q6, q7⟩ := sfC_cells hq9
              obtain ⟨s0, s1, sf⟩ := (st).fs
              clear hd9 hq9
              rw [HHC.out] at q1
              have hsl := HOKi.out.1
              have hsl2 := HSL.out
              have HLJ : Hid (Sj.cells.length = S.cells.length) := Hid.mk (by rw [hsl, hsl2])
              have hCj : C < Sj.cells.length := by rw [HLJ.out]; exact HCC.out
              have HCj := Hid.mk hCj
              have m1 : (C : Int) < Sj.cells.length := by omega
              have HITw := Hid.mk (HIT.out wi)
              rw [HHC.out] at HITw
              clear fr st ok hj hsl hsl2 hCj
              by_cases hlj : j < itN f.a f.b
              · have l1 : (j : Int) < itN f.a f.b := by omega
                have hfit := HAB.out j hlj
                have haj := HAA.out
                have wj : IntKind.i64.wrap (f.a + (j : Int)) = f.a + (j : Int) := by rw [IntKind.wrap_i64]; omega
                clear hfit haj
                go_wp2_with fail
                refine HITw.out.mono ?_
                rintro e w5 ⟨rfl, k5⟩
                have HK5 := Hid.mk k5
                have HF5 := Hid.mk (HFRi.out.trans (Fr.keep (P := pS gS gC) k5))
                have ST5 := HSTi.out.keep k5
                have HST5 := Hid.mk ST5
                clear k5 d0 d1 d2 d3 d4 d5 d6 d7 d8 q0 q1 q2 q3 q4 q5 q6 q7 s0 s1 sf
                obtain ⟨hd9, hq9⟩ := HDS.out w5 HF5.out
                obtain ⟨d0, d1, d2, d3, d4, d5, d6, d7, d8⟩ := prC_cells hd9
                obtain ⟨q0, q1, q2, q3, q4, q5, q6, q7⟩ := sfC_cells hq9
                obtain ⟨s0, s1, sf⟩ := (ST5).fs
                clear hd9 hq9
                rw [HHC.out] at q1
                have pD := HPD.out w5 HF5.out
                obtain ⟨-, cC, fC⟩ := ST5.cell HCj.out
                have LW := HLW.out (f.a + (j : Int))
                have HSP2 := Hid.mk (HSTP.out Sj j HOKi.out)
                obtain ⟨vj, hvj⟩ : ∃ vj : Nat, vj = ((f.a + (j : Int)) % 2 ^ D).toNat := ⟨_, rfl⟩
                rw [← hvj] at LW HFD HSP2
                clear hvj
                have ne1 : gC ≠ gS := Ne.symm HSV.out.ne
                have ne2 : gC ≠ gQ := fun e => HQN.out (Or.inr e.symm)
                have ne3 : gS ≠ gQ := fun e => HQN.out (Or.inl e.symm)
                have ne5 : gC ≠ gP := fun e => HPN.out (Or.inr e.symm)
                have ne6 := HNP.out
                clear ST5
                go_wp2_with fail
                go_region_held3 (fun w' => w'.cell? ⟨gS, 0, none⟩ = some (.slice (some ⟨gC, 0, none⟩) Sj.cells.length cap) ∧ w'.cell? ⟨gQ, 1, none⟩ = some (.int .i64 (C : Int)) ∧ w'.cell? ⟨gQ, 3, none⟩ = some (.int .i64 f.a) ∧ w'.cell? ⟨gP, 0, none⟩ = some (.slice (some ⟨pb, po, none⟩) cs.length pc) ∧ w'.cell? ⟨pb, po + C * 5, none⟩ = some (.int .i64 (D : Int))) (first | exact ⟨s0, q1, q3, d0, pD⟩ | go_keep) (first | (go_at_call 39; refine (LW _).mono ?_; rintro e y ⟨rfl, hy⟩; subst hy))
                rename_i hHd
                clear hHd
                obtain ⟨w6, hw6⟩ : ∃ w6, w6 = (w5.setCell ⟨gC, C, none⟩ (.int .u64 ((vj : Nat) : Int))).drew := ⟨_, rfl⟩
                rw [← hw6]
                have ST6 : StM w6 gS gC (some ⟨gC, 0, none⟩) cap sp (Sj.put C vj) := by rw [hw6]; exact (HST5.out.put HCj.out vj).keep ((Keep.refl _).drew)
                have FR6 : Fr (pS gS gC) V w6 := by rw [hw6]; exact (HF5.out.trans (frC _ gS gC _ _)).trans (Fr.keep ((Keep.refl _).drew))
                have HF6 := Hid.mk FR6
                have CX := Hid.mk (HTH.out w6 (Sj.put C vj) FR6 HT.out ST6 HSP2.out)
                clear hw6 cC fC pD d0 d1 d2 d3 d4 d5 d6 d7 d8 q0 q1 q2 q3 q4 q5 q6 q7 s0 s1 sf
                obtain ⟨hd9, hq9⟩ := HDS.out w6 FR6
                obtain ⟨d0, d1, d2, d3, d4, d5, d6, d7, d8⟩ := prC_cells hd9
                obtain ⟨q0, q1, q2, q3, q4, q5, q6, q7⟩ := sfC_cells hq9
                obtain ⟨s0, s1, sf⟩ := (ST6).fs
                clear hd9 hq9
                clear ST6 FR6
                go_wp2_with fail
                refine CX.out.mono ?_
                rintro e w7 ⟨rfl, ST7, FR7⟩
                have HST7 := Hid.mk ST7
                have HFR7 := Hid.mk (HF6.out.trans FR7)
                have HOK7 := Hid.mk (exL_ok HWS.out HT.out HSP2.out)
                clear ST7 FR7
                go_wp2_with fail
                refine Handed.intro (itN f.a f.b - (j + 1)) (by have := HJ.out; omega) ?_
                go_step
                refine InvF.of (by rfl) rfl ⟨j + 1, by have := HJ.out; omega, by first | rfl | (show Value.int _ _ = _; go_num), HFR7.out, ?_, ?_, rfl, rfl, rfl, rfl, rfl, rfl, rfl, rfl⟩
                · rw [HFD.out]; exact HST7.out
                · rw [HFD.out]; exact HOK7.out
              · have l1 : ¬ (j : Int) < itN f.a f.b := by omega
                obtain rfl : j = itN f.a f.b := by have := HJ.out; omega
                go_wp2_with fail
                refine HITw.out.mono ?_
                rintro e w5 ⟨rfl, k5⟩
                have HST5 := Hid.mk (HSTi.out.keep k5)
                have HF5 := Hid.mk (HFRi.out.trans (Fr.keep (P := pS gS gC) k5))
                clear k5
                go_wp2_with fail
                refine Handed.intro (t.toL.length - (k + 1)) (by have := HK.out; omega) ?_
                go_step
                refine InvF.of (by rfl) rfl ⟨k + 1, by have := HK.out; omega, by first | rfl | (show Value.int _ _ = _; go_num), HFV.out.trans HF5.out, ?_, rfl, rfl, rfl, rfl, rfl, rfl⟩
                rw [HF.out, EQ.out, HSJ.out]
                exact HST5.out
        · as_aux_lemma =>
            have hexl : ex.toL.length = 1 := by have := ws_len ex; rw [E] at this; simpa [EL.len] using this.symm
            have hexi : (ex.len : Int) = 1 := by unfold EL.len; omega
            obtain ⟨b, o, kx0, kn0, kc0, ha0, hcl0, hca0⟩ := KCN.out 0 (by omega)
            have hxw0 : ex.toL[0].1.w = ex.ws.getD 0 0 := (ws_get ex 0 (by omega)).symm
            have hlt0 := evL_lt HOK.out HWX.out.1 0 (by omega)
            rw [E] at hxw0 hlt0
            simp only [List.getD_cons_zero, List.getD_cons_succ, kw] at hxw0 hlt0
            subst ha0
            generalize ex.toL[0].1 = x0 at *
            have HCA0 := Hid.mk hca0
            have HCL0 := Hid.mk hcl0
            have HAF : Hid (anyF (evL ex S) = (kf (evL ex S) 0)) := Hid.mk (by
              have hl9 := evL_len ex S
              rw [hexl] at hl9
              generalize evL ex S = ee at *
              match ee, hl9 with
              | [a], _ => simp [anyF, kf])
            clear hca0 hcl0 hexl KCN
            obtain ⟨c0, c1, c2, c3⟩ := hcc
            obtain ⟨C, hC⟩ : ∃ C : Nat, f.c = C := ⟨f.c.toNat, by omega⟩
            have hCl : C < S.cells.length := by have := HSL.out; omega
            have hCl1 : C + 1 < S.cells.length := by have := HSL.out; omega
            have EQ : Hid (S9 = ⟨((S.put C (decide (kv (evL ex S) 0 = 1 ∧ S.at (C + 1) = 0)).toNat).put (C + 1) (kv (evL ex S) 0)).cells, S.fault || kf (evL ex S) 0⟩) := Hid.mk (by rw [HEXO.out]; simp only [exOne, kd, HAF.out, hC]; rfl)
            generalize kv (evL ex S) 0 = n0 at *
            generalize kf (evL ex S) 0 = f0 at *
            have HSS0 : Hid (∀ Z, Keep V Z → Z.cell? ⟨gQ, 5, none⟩ = some (.slice (some ⟨b, o, none⟩) ex.len ec) ∧ Z.cell? ⟨b, o, none⟩ = some (.int .i64 x0.k) ∧ Z.cell? ⟨b, o + 1, none⟩ = some (.int .i64 x0.w) ∧ Z.cell? ⟨b, o + 2, none⟩ = some (.int .i64 x0.o) ∧ Z.cell? ⟨b, o + 3, none⟩ = some (.int .u64 (x0.v : Nat)) ∧ Z.cell? ⟨b, o + 4, none⟩ = some (.int .i64 x0.c) ∧ Z.cell? ⟨b, o + 5, none⟩ = some (.int .i64 x0.l) ∧ Z.cell? ⟨b, o + 6, none⟩ = some (.slice kx0 kn0 kc0) ∧ Z.cell? ⟨gS, 0, none⟩ = some (.slice ca S.cells.length cap) ∧ Z.cell? ⟨gS, 1, none⟩ = some (.bool S.fault)) := Hid.mk (fun Z kz => by
              obtain ⟨hd9, hq9⟩ := HDS.out Z (Fr.keep kz)
              obtain ⟨q0, q1, q2, q3, q4, q5, q6, q7⟩ := sfC_cells hq9
              obtain ⟨s0, s1, -⟩ := (HSV.out.keep kz).fs
              have g := HCL0.out Z (Fr.keep kz)
              have g0 := g 0 (by decide)
              have g1 := g 1 (by decide)
              have g2 := g 2 (by decide)
              have g3 := g 3 (by decide)
              have g4 := g 4 (by decide)
              have g5 := g 5 (by decide)
              have g6 := g 6 (by decide)
              simp only [efC, List.getElem?_cons_zero, List.getElem?_cons_succ, Nat.zero_mul, Nat.one_mul, Nat.reduceMul, Nat.add_zero] at g0 g1 g2 g3 g4 g5 g6
              exact ⟨q5, g0, g1, g2, g3, g4, g5, g6, s0, s1⟩)
            rw [kd] at q0
            rw [hC] at q1
            have HHC := Hid.mk hC
            have HCC := Hid.mk hCl
            have HCC1 := Hid.mk hCl1
            have m1 : (C : Int) < S.cells.length := by omega
            have m2 : (0 : Int) ≤ C := by omega
            have m3 : (C : Int) + 1 < S.cells.length := by omega
            have m5 : (0 : Int) ≤ (C : Int) + 1 := by omega
            have m4 : (C : Int) ≤ 1000000 := by have := HSL.out; rw [List.length_map] at this; omega
            have mw : IntKind.i64.wrap ((C : Int) + 1) = (C : Int) + 1 := by rw [IntKind.wrap_i64]; omega
            clear kd E c0 c1 c2 c3 hC hCl hCl1 hxw0 hlt0
            go_wp2_with fail
            go_region_held3 (fun w' => w'.cell? ⟨gQ, 5, none⟩ = some (.slice (some ⟨b, o, none⟩) ex.len ec) ∧ w'.cell? ⟨b, o, none⟩ = some (.int .i64 x0.k) ∧ w'.cell? ⟨b, o + 1, none⟩ = some (.int .i64 x0.w) ∧ w'.cell? ⟨b, o + 2, none⟩ = some (.int .i64 x0.o) ∧ w'.cell? ⟨b, o + 3, none⟩ = some (.int .u64 (x0.v : Nat)) ∧ w'.cell? ⟨b, o + 4, none⟩ = some (.int .i64 x0.c) ∧ w'.cell? ⟨b, o + 5, none⟩ = some (.int .i64 x0.l) ∧ w'.cell? ⟨b, o + 6, none⟩ = some (.slice kx0 kn0 kc0) ∧ w'.cell? ⟨gS, 0, none⟩ = some (.slice ca S.cells.length cap) ∧ w'.cell? ⟨gS, 1, none⟩ = some (.bool S.fault)) (first | exact HSS0.out _ ((Keep.refl V).drew) | exact HSS0.out _ ((Keep.refl V).drew.trans k2)) (first | (go_at_call 36; refine (HCA0.out _ (Fr.keep (Keep.refl V).drew) (HSV.out.keep (Keep.refl V).drew).vs).mono ?_; rintro e w2 ⟨rfl, k2⟩))
            rename_i hHd
            clear hHd
            have HKw2 := Hid.mk ((Keep.refl V).drew.trans k2)
            clear k2
            have ST2 := HSV.out.keep HKw2.out
            obtain ⟨hca9, cC, fC⟩ := ST2.cell HCC.out
            obtain ⟨-, cC1, fC1⟩ := ST2.cell HCC1.out
            subst hca9
            have HST2 := Hid.mk ST2
            obtain ⟨hd9, hq9⟩ := HDS.out w2 (Fr.keep HKw2.out)
            obtain ⟨d0, d1, d2, d3, d4, d5, d6, d7, d8⟩ := prC_cells hd9
            obtain ⟨q0, q1, q2, q3, q4, q5, q6, q7⟩ := sfC_cells hq9
            obtain ⟨s0, s1, sf⟩ := (ST2).fs
            clear hd9 hq9
            rw [HHC.out] at q1
            have ne1 : gC ≠ gS := Ne.symm HSV.out.ne
            have ne2 : gC ≠ gQ := fun e => HQN.out (Or.inr e.symm)
            have ne3 : gS ≠ gQ := fun e => HQN.out (Or.inl e.symm)
            clear ST2
            by_cases z : n0 = 1
            · have z1 : ((n0 : Int) == 1) = true := by simp; omega
              by_cases y0 : S.at (C + 1) = 0
              · rw [show (decide (n0 = 1 ∧ S.at (C + 1) = 0)).toNat = 1 by simp [y0, z]] at EQ
                clear z
                have PC1 : Hid ((w2.setCell ⟨gC, C, none⟩ (.int .u64 1)).drew.cell? ⟨gC, C + 1, none⟩ = some (.int .u64 ((S.at (C + 1) : Nat) : Int))) := Hid.mk (by
                  have h9 := ((HST2.out.put HCC.out 1).cell (i := C + 1) (by rw [put_len]; exact HCC1.out)).2.1
                  have h8 : (S.put C 1).at (C + 1) = S.at (C + 1) := by simp [PS.put, PS.at, List.getD_eq_getElem?_getD, List.getElem?_set]
                  rw [h8] at h9
                  exact h9)
                have TC := truth_c true
                simp only [Bool.toNat_true, Bool.toNat_false] at TC
                rw [y0] at cC1 PC1
                clear y0
                go_wp2_with fail
                go_region_held3 (fun w' => w'.cell? ⟨gS, 0, none⟩ = some (.slice (some ⟨gC, 0, none⟩) S.cells.length cap) ∧ w'.cell? ⟨gQ, 1, none⟩ = some (.int .i64 (C : Int)) ∧ w'.cell? ⟨gC, C + 1, none⟩ = some (.int .u64 ((0 : Nat) : Int))) (first | exact ⟨s0, q1, cC1⟩ | (refine ⟨?_, ?_, PC1.out⟩ <;> go_keep)) (first | (go_at_call 40; refine (TC _).mono ?_; rintro e y ⟨rfl, hy⟩; subst hy))
                rename_i hHd
                clear hHd
                obtain ⟨w3, hw9⟩ : ∃ w3, w3 = (w2.setCell ⟨gC, C, none⟩ (.int .u64 1)).drew := ⟨_, rfl⟩
                rw [← hw9]
                have STw3 : StM w3 gS gC (some ⟨gC, 0, none⟩) cap sp (S.put C 1) := by rw [hw9]; exact (HST2.out.put HCC.out 1).keep ((Keep.refl _).drew)
                have FRw3 : Fr (pS gS gC) V w3 := by rw [hw9]; exact ((Fr.keep HKw2.out).trans (frC _ gS gC _ _)).trans (Fr.keep ((Keep.refl _).drew))
                have HSTw3 := Hid.mk STw3
                have HFRw3 := Hid.mk FRw3
                clear hw9 s0 s1 sf q0 q1 q2 q3 q4 q5 q6 q7 d0 d1 d2 d3 d4 d5 d6 d7 d8 cC fC cC1 fC1
                obtain ⟨hd9, hq9⟩ := HDS.out w3 FRw3
                obtain ⟨d0, d1, d2, d3, d4, d5, d6, d7, d8⟩ := prC_cells hd9
                obtain ⟨q0, q1, q2, q3, q4, q5, q6, q7⟩ := sfC_cells hq9
                obtain ⟨s0, s1, sf⟩ := (STw3).fs
                clear hd9 hq9
                rw [HHC.out] at q1
                rw [put_len] at s0
                obtain ⟨-, cC1, fC1⟩ := STw3.cell (i := C + 1) (by rw [put_len]; exact HCC1.out)
                have HST4 := Hid.mk (STw3.put (i := C + 1) (by rw [put_len]; exact HCC1.out) n0)
                clear STw3 FRw3
                go_wp2_with fail
                go_region_held3 (fun w' => w'.cell? ⟨gS, 0, none⟩ = some (.slice (some ⟨gC, 0, none⟩) S.cells.length cap) ∧ w'.cell? ⟨gQ, 1, none⟩ = some (.int .i64 (C : Int))) (first | exact ⟨s0, q1⟩ | go_keep) (fail)
                rename_i hHd
                clear hHd
                obtain ⟨w4, hw9⟩ : ∃ w4, w4 = (w3.setCell ⟨gC, C + 1, none⟩ (.int .u64 (n0 : Int))).drew := ⟨_, rfl⟩
                rw [← hw9]
                have STw4 : StM w4 gS gC (some ⟨gC, 0, none⟩) cap sp ((S.put C 1).put (C + 1) n0) := by rw [hw9]; exact HST4.out.keep ((Keep.refl _).drew)
                have FRw4 : Fr (pS gS gC) V w4 := by rw [hw9]; exact (HFRw3.out.trans (frC _ gS gC _ _)).trans (Fr.keep ((Keep.refl _).drew))
                have HSTw4 := Hid.mk STw4
                have HFRw4 := Hid.mk FRw4
                clear hw9 s0 s1 sf q0 q1 q2 q3 q4 q5 q6 q7 d0 d1 d2 d3 d4 d5 d6 d7 d8 cC1 fC1
                obtain ⟨s0, s1, sf⟩ := HSTw4.out.fs
                simp only [PS.put] at s0 s1
                rcases Bool.eq_false_or_eq_true S.fault with hs | hs
                · have HFS := Hid.mk hs
                  rw [hs] at s1
                  clear hs
                  go_wp2_with fail
                  refine Handed.intro (t.toL.length - (k + 1)) (by have := HK.out; omega) ?_
                  go_step
                  refine InvF.of (by rfl) rfl ⟨k + 1, by have := HK.out; omega, by first | rfl | (show Value.int _ _ = _; go_num), HFV.out.trans (HFRw4.out.trans (frS _ gS gC _)), ?_, rfl, rfl, rfl, rfl, rfl, rfl⟩
                  rw [HF.out, EQ.out, HFS.out]
                  exact HSTw4.out.flt _
                · have HFS := Hid.mk hs
                  rw [hs] at s1
                  clear hs
                  go_wp2_with fail
                  refine Handed.intro (t.toL.length - (k + 1)) (by have := HK.out; omega) ?_
                  go_step
                  refine InvF.of (by rfl) rfl ⟨k + 1, by have := HK.out; omega, by first | rfl | (show Value.int _ _ = _; go_num), HFV.out.trans (HFRw4.out.trans (frS _ gS gC _)), ?_, rfl, rfl, rfl, rfl, rfl, rfl⟩
                  rw [HF.out, EQ.out, HFS.out]
                  exact HSTw4.out.flt _
              · rw [show (decide (n0 = 1 ∧ S.at (C + 1) = 0)).toNat = 0 by simp [y0]] at EQ
                have y1 : (((S.at (C + 1) : Nat) : Int) == 0) = false := by simp; omega
                clear y0 z
                have PC1 : Hid ((w2.setCell ⟨gC, C, none⟩ (.int .u64 0)).drew.cell? ⟨gC, C + 1, none⟩ = some (.int .u64 ((S.at (C + 1) : Nat) : Int))) := Hid.mk (by
                  have h9 := ((HST2.out.put HCC.out 0).cell (i := C + 1) (by rw [put_len]; exact HCC1.out)).2.1
                  have h8 : (S.put C 0).at (C + 1) = S.at (C + 1) := by simp [PS.put, PS.at, List.getD_eq_getElem?_getD, List.getElem?_set]
                  rw [h8] at h9
                  exact h9)
                have TC := truth_c false
                simp only [Bool.toNat_true, Bool.toNat_false] at TC
                generalize S.at (C + 1) = av at *
                go_wp2_with fail
                go_region_held3 (fun w' => w'.cell? ⟨gS, 0, none⟩ = some (.slice (some ⟨gC, 0, none⟩) S.cells.length cap) ∧ w'.cell? ⟨gQ, 1, none⟩ = some (.int .i64 (C : Int)) ∧ w'.cell? ⟨gC, C + 1, none⟩ = some (.int .u64 (av : Int))) (first | exact ⟨s0, q1, cC1⟩ | (refine ⟨?_, ?_, PC1.out⟩ <;> go_keep)) (first | (go_at_call 40; refine (TC _).mono ?_; rintro e y ⟨rfl, hy⟩; subst hy))
                rename_i hHd
                clear hHd
                obtain ⟨w3, hw9⟩ : ∃ w3, w3 = (w2.setCell ⟨gC, C, none⟩ (.int .u64 0)).drew := ⟨_, rfl⟩
                rw [← hw9]
                have STw3 : StM w3 gS gC (some ⟨gC, 0, none⟩) cap sp (S.put C 0) := by rw [hw9]; exact (HST2.out.put HCC.out 0).keep ((Keep.refl _).drew)
                have FRw3 : Fr (pS gS gC) V w3 := by rw [hw9]; exact ((Fr.keep HKw2.out).trans (frC _ gS gC _ _)).trans (Fr.keep ((Keep.refl _).drew))
                have HSTw3 := Hid.mk STw3
                have HFRw3 := Hid.mk FRw3
                clear hw9 s0 s1 sf q0 q1 q2 q3 q4 q5 q6 q7 d0 d1 d2 d3 d4 d5 d6 d7 d8 cC fC cC1 fC1
                obtain ⟨hd9, hq9⟩ := HDS.out w3 FRw3
                obtain ⟨d0, d1, d2, d3, d4, d5, d6, d7, d8⟩ := prC_cells hd9
                obtain ⟨q0, q1, q2, q3, q4, q5, q6, q7⟩ := sfC_cells hq9
                obtain ⟨s0, s1, sf⟩ := (STw3).fs
                clear hd9 hq9
                rw [HHC.out] at q1
                rw [put_len] at s0
                obtain ⟨-, cC1, fC1⟩ := STw3.cell (i := C + 1) (by rw [put_len]; exact HCC1.out)
                have HST4 := Hid.mk (STw3.put (i := C + 1) (by rw [put_len]; exact HCC1.out) n0)
                clear STw3 FRw3
                go_wp2_with fail
                go_region_held3 (fun w' => w'.cell? ⟨gS, 0, none⟩ = some (.slice (some ⟨gC, 0, none⟩) S.cells.length cap) ∧ w'.cell? ⟨gQ, 1, none⟩ = some (.int .i64 (C : Int))) (first | exact ⟨s0, q1⟩ | go_keep) (fail)
                rename_i hHd
                clear hHd
                obtain ⟨w4, hw9⟩ : ∃ w4, w4 = (w3.setCell ⟨gC, C + 1, none⟩ (.int .u64 (n0 : Int))).drew := ⟨_, rfl⟩
                rw [← hw9]
                have STw4 : StM w4 gS gC (some ⟨gC, 0, none⟩) cap sp ((S.put C 0).put (C + 1) n0) := by rw [hw9]; exact HST4.out.keep ((Keep.refl _).drew)
                have FRw4 : Fr (pS gS gC) V w4 := by rw [hw9]; exact (HFRw3.out.trans (frC _ gS gC _ _)).trans (Fr.keep ((Keep.refl _).drew))
                have HSTw4 := Hid.mk STw4
                have HFRw4 := Hid.mk FRw4
                clear hw9 s0 s1 sf q0 q1 q2 q3 q4 q5 q6 q7 d0 d1 d2 d3 d4 d5 d6 d7 d8 cC1 fC1
                obtain ⟨s0, s1, sf⟩ := HSTw4.out.fs
                simp only [PS.put] at s0 s1
                rcases Bool.eq_false_or_eq_true S.fault with hs | hs
                · have HFS := Hid.mk hs
                  rw [hs] at s1
                  clear hs
                  go_wp2_with fail
                  refine Handed.intro (t.toL.length - (k + 1)) (by have := HK.out; omega) ?_
                  go_step
                  refine InvF.of (by rfl) rfl ⟨k + 1, by have := HK.out; omega, by first | rfl | (show Value.int _ _ = _; go_num), HFV.out.trans (HFRw4.out.trans (frS _ gS gC _)), ?_, rfl, rfl, rfl, rfl, rfl, rfl⟩
                  rw [HF.out, EQ.out, HFS.out]
                  exact HSTw4.out.flt _
                · have HFS := Hid.mk hs
                  rw [hs] at s1
                  clear hs
                  go_wp2_with fail
                  refine Handed.intro (t.toL.length - (k + 1)) (by have := HK.out; omega) ?_
                  go_step
                  refine InvF.of (by rfl) rfl ⟨k + 1, by have := HK.out; omega, by first | rfl | (show Value.int _ _ = _; go_num), HFV.out.trans (HFRw4.out.trans (frS _ gS gC _)), ?_, rfl, rfl, rfl, rfl, rfl, rfl⟩
                  rw [HF.out, EQ.out, HFS.out]
                  exact HSTw4.out.flt _
            · have z1 : ((n0 : Int) == 1) = false := by simp; omega
              rw [show (decide (n0 = 1 ∧ S.at (C + 1) = 0)).toNat = 0 by simp [z]] at EQ
              clear z
              go_upto_region 31 with fail
              refine r31_c gS gC gQ S.cells.length cap C (n0 : Int) rfl rfl rfl rfl z1 HCC.out s0 q1 ⟨_, by rw [Nat.zero_add]; exact cC⟩ (by rw [Nat.zero_add]; exact fC) ?_
              simp only [lay, r31L, List.foldl_cons, List.foldl_nil, Nat.zero_add]
              simp only [put_litx, List.set_cons_succ, List.set_cons_zero]
              obtain ⟨w3, hw9⟩ : ∃ w3, w3 = w2.drew.setCell ⟨gC, C, none⟩ (.int .u64 0) := ⟨_, rfl⟩
              rw [← hw9]
              have STw3 : StM w3 gS gC (some ⟨gC, 0, none⟩) cap sp (S.put C 0) := by rw [hw9]; exact (HST2.out.keep ((Keep.refl _).drew)).put HCC.out 0
              have FRw3 : Fr (pS gS gC) V w3 := by rw [hw9]; exact (Fr.keep (HKw2.out.trans ((Keep.refl _).drew))).trans (frC _ gS gC _ _)
              have HSTw3 := Hid.mk STw3
              have HFRw3 := Hid.mk FRw3
              clear hw9 s0 s1 sf q0 q1 q2 q3 q4 q5 q6 q7 d0 d1 d2 d3 d4 d5 d6 d7 d8 cC fC cC1 fC1
              obtain ⟨hd9, hq9⟩ := HDS.out w3 FRw3
              obtain ⟨d0, d1, d2, d3, d4, d5, d6, d7, d8⟩ := prC_cells hd9
              obtain ⟨q0, q1, q2, q3, q4, q5, q6, q7⟩ := sfC_cells hq9
              obtain ⟨s0, s1, sf⟩ := (STw3).fs
              clear hd9 hq9
              rw [HHC.out] at q1
              rw [put_len] at s0
              obtain ⟨-, cC1, fC1⟩ := STw3.cell (i := C + 1) (by rw [put_len]; exact HCC1.out)
              have HST4 := Hid.mk (STw3.put (i := C + 1) (by rw [put_len]; exact HCC1.out) n0)
              clear STw3 FRw3
              go_wp2_with fail
              go_region_held3 (fun w' => w'.cell? ⟨gS, 0, none⟩ = some (.slice (some ⟨gC, 0, none⟩) S.cells.length cap) ∧ w'.cell? ⟨gQ, 1, none⟩ = some (.int .i64 (C : Int))) (first | exact ⟨s0, q1⟩ | go_keep) (fail)
              rename_i hHd
              clear hHd
              obtain ⟨w4, hw9⟩ : ∃ w4, w4 = (w3.setCell ⟨gC, C + 1, none⟩ (.int .u64 (n0 : Int))).drew := ⟨_, rfl⟩
              rw [← hw9]
              have STw4 : StM w4 gS gC (some ⟨gC, 0, none⟩) cap sp ((S.put C 0).put (C + 1) n0) := by rw [hw9]; exact HST4.out.keep ((Keep.refl _).drew)
              have FRw4 : Fr (pS gS gC) V w4 := by rw [hw9]; exact (HFRw3.out.trans (frC _ gS gC _ _)).trans (Fr.keep ((Keep.refl _).drew))
              have HSTw4 := Hid.mk STw4
              have HFRw4 := Hid.mk FRw4
              clear hw9 s0 s1 sf q0 q1 q2 q3 q4 q5 q6 q7 d0 d1 d2 d3 d4 d5 d6 d7 d8 cC1 fC1
              obtain ⟨s0, s1, sf⟩ := HSTw4.out.fs
              simp only [PS.put] at s0 s1
              rcases Bool.eq_false_or_eq_true S.fault with hs | hs
              · have HFS := Hid.mk hs
                rw [hs] at s1
                clear hs
                go_wp2_with fail
                refine Handed.intro (t.toL.length - (k + 1)) (by have := HK.out; omega) ?_
                go_step
                refine InvF.of (by rfl) rfl ⟨k + 1, by have := HK.out; omega, by first | rfl | (show Value.int _ _ = _; go_num), HFV.out.trans (HFRw4.out.trans (frS _ gS gC _)), ?_, rfl, rfl, rfl, rfl, rfl, rfl⟩
                rw [HF.out, EQ.out, HFS.out]
                exact HSTw4.out.flt _
              · have HFS := Hid.mk hs
                rw [hs] at s1
                clear hs
                go_wp2_with fail
                refine Handed.intro (t.toL.length - (k + 1)) (by have := HK.out; omega) ?_
                go_step
                refine InvF.of (by rfl) rfl ⟨k + 1, by have := HK.out; omega, by first | rfl | (show Value.int _ _ = _; go_num), HFV.out.trans (HFRw4.out.trans (frS _ gS gC _)), ?_, rfl, rfl, rfl, rfl, rfl, rfl⟩
                rw [HF.out, EQ.out, HFS.out]
                exact HSTw4.out.flt _
        · as_aux_lemma =>
            have hexl : ex.toL.length = 3 := by have := ws_len ex; rw [E] at this; simpa [EL.len] using this.symm
            have hexi : (ex.len : Int) = 3 := by unfold EL.len; omega
            obtain ⟨b, o, kx0, kn0, kc0, ha0, hcl0, hca0⟩ := KCN.out 0 (by omega)
            have hxw0 : ex.toL[0].1.w = ex.ws.getD 0 0 := (ws_get ex 0 (by omega)).symm
            have hlt0 := evL_lt HOK.out HWX.out.1 0 (by omega)
            rw [E] at hxw0 hlt0
            simp only [List.getD_cons_zero, List.getD_cons_succ, kw] at hxw0 hlt0
            subst ha0
            obtain ⟨b1, o1, kx1, kn1, kc1, ha1, hcl1, hca1⟩ := KCN.out 1 (by omega)
            have hxw1 : ex.toL[1].1.w = ex.ws.getD 1 0 := (ws_get ex 1 (by omega)).symm
            have hlt1 := evL_lt HOK.out HWX.out.1 1 (by omega)
            rw [E] at hxw1 hlt1
            simp only [List.getD_cons_zero, List.getD_cons_succ, kw] at hxw1 hlt1
            obtain ⟨rfl, rfl⟩ : b = b1 ∧ o = o1 := by simpa using ha1
            clear ha1
            obtain ⟨b2, o2, kx2, kn2, kc2, ha2, hcl2, hca2⟩ := KCN.out 2 (by omega)
            have hxw2 : ex.toL[2].1.w = ex.ws.getD 2 0 := (ws_get ex 2 (by omega)).symm
            have hlt2 := evL_lt HOK.out HWX.out.1 2 (by omega)
            rw [E] at hxw2 hlt2
            simp only [List.getD_cons_zero, List.getD_cons_succ, kw] at hxw2 hlt2
            obtain ⟨rfl, rfl⟩ : b = b2 ∧ o = o2 := by simpa using ha2
            clear ha2
            generalize ex.toL[0].1 = x0 at *
            have HCA0 := Hid.mk hca0
            have HCL0 := Hid.mk hcl0
            generalize ex.toL[1].1 = x1 at *
            have HCA1 := Hid.mk hca1
            have HCL1 := Hid.mk hcl1
            generalize ex.toL[2].1 = x2 at *
            have HCA2 := Hid.mk hca2
            have HCL2 := Hid.mk hcl2
            have HAF : Hid (anyF (evL ex S) = (kf (evL ex S) 0 || kf (evL ex S) 1 || kf (evL ex S) 2)) := Hid.mk (by
              have hl9 := evL_len ex S
              rw [hexl] at hl9
              generalize evL ex S = ee at *
              match ee, hl9 with
              | [a, b, c], _ => simp [anyF, kf, Bool.or_assoc])
            clear hca0 hcl0 hca1 hcl1 hca2 hcl2 hexl KCN
            obtain ⟨c0, c1, c2, c3⟩ := hcc
            obtain ⟨C, hC⟩ : ∃ C : Nat, f.c = C := ⟨f.c.toNat, by omega⟩
            obtain ⟨A, hA⟩ : ∃ A : Nat, a0 = A := ⟨a0.toNat, by omega⟩
            obtain ⟨y0, y1, y2, y3⟩ := hcd
            have hA1 : 1 ≤ A := by omega
            have hA64 : A ≤ 64 := by omega
            have hCl : C < S.cells.length := by have := HSL.out; omega
            have hCl1 : C + 1 < S.cells.length := by have := HSL.out; omega
            have het : S.at (C + 1) < 2 ^ A := by
              have h9 := HOK.out.2 (C + 1) (by have := HSL.out; omega)
              have h8 := y3 0 (by decide)
              rw [Nat.add_zero, show (f.c + 1).toNat = C + 1 by omega] at h8
              rw [h8, hA] at h9
              exact h9
            have HSG : Hid (∀ v, v < 2 ^ A → Pure1 37 #[.int .u64 (v : Nat), .int .i64 (A : Nat)] (.int .i64 (sgn v A))) := Hid.mk (fun v hv => signed_c v A hv hA1 hA64)
            have HMX := Hid.mk (max_c A hA64)
            have hmxl := max_lt (w := A) hA1
            have EQ : Hid (S9 = if kv (evL ex S) 0 = 0 then ⟨((S.put C 0).put (C + 1) 0).cells, S.fault || (kf (evL ex S) 0 || kf (evL ex S) 1 || kf (evL ex S) 2)⟩ else if sgn (kv (evL ex S) 1) A ≤ sgn (tonT (S.at (C + 1)) (kv (evL ex S) 2) A) A then ⟨((S.put C 1).put (C + 1) (kv (evL ex S) 1)).cells, S.fault || (kf (evL ex S) 0 || kf (evL ex S) 1 || kf (evL ex S) 2)⟩ else ⟨((S.put C 0).put (C + 1) (tonT (S.at (C + 1)) (kv (evL ex S) 2) A)).cells, S.fault || (kf (evL ex S) 0 || kf (evL ex S) 1 || kf (evL ex S) 2)⟩) := Hid.mk (by rw [HEXO.out]; simp only [exOne, kd, HAF.out, hC, E, kw, List.getD_cons_zero, List.getD_cons_succ, hA, Int.toNat_natCast]; rfl)
            have hn1 : kv (evL ex S) 1 < 2 ^ A := by rw [hA] at hlt1; simpa using hlt1.2.2
            have HLW := Hid.mk (low_i ((S.at (C + 1) : Int) + (kv (evL ex S) 2 : Nat)) hA64)
            rw [wop0] at HLW
            have ht0 := wop_lt (op := 0) (y := kv (evL ex S) 2) hA1 het (by decide)
            have HTT : Hid (tonT (S.at (C + 1)) (kv (evL ex S) 2) A = if sgn (wop 0 (S.at (C + 1)) (kv (evL ex S) 2) A) A < sgn (S.at (C + 1)) A then (2 ^ A - 1) / 2 else wop 0 (S.at (C + 1)) (kv (evL ex S) 2) A) := Hid.mk rfl
            generalize tonT (S.at (C + 1)) (kv (evL ex S) 2) A = tt at *
            generalize wop 0 (S.at (C + 1)) (kv (evL ex S) 2) A = t0 at *
            generalize (2 ^ A - 1) / 2 = mx at *
            have HX1 : Hid (x1.w = (A : Int)) := Hid.mk (by rw [hxw1, hA])
            have HSE := Hid.mk (HSG.out _ het)
            have HS0 := Hid.mk (HSG.out _ ht0)
            have HSM := Hid.mk (HSG.out _ hmxl)
            have HS1 := Hid.mk (HSG.out _ hn1)
            generalize kv (evL ex S) 0 = n0 at *
            generalize kf (evL ex S) 0 = f0 at *
            generalize kv (evL ex S) 1 = n1 at *
            generalize kf (evL ex S) 1 = f1 at *
            generalize kv (evL ex S) 2 = n2 at *
            generalize kf (evL ex S) 2 = f2 at *
            have HSS0 : Hid (∀ Z, Keep V Z → Z.cell? ⟨gQ, 5, none⟩ = some (.slice (some ⟨b, o, none⟩) ex.len ec) ∧ Z.cell? ⟨b, o, none⟩ = some (.int .i64 x0.k) ∧ Z.cell? ⟨b, o + 1, none⟩ = some (.int .i64 x0.w) ∧ Z.cell? ⟨b, o + 2, none⟩ = some (.int .i64 x0.o) ∧ Z.cell? ⟨b, o + 3, none⟩ = some (.int .u64 (x0.v : Nat)) ∧ Z.cell? ⟨b, o + 4, none⟩ = some (.int .i64 x0.c) ∧ Z.cell? ⟨b, o + 5, none⟩ = some (.int .i64 x0.l) ∧ Z.cell? ⟨b, o + 6, none⟩ = some (.slice kx0 kn0 kc0) ∧ Z.cell? ⟨gS, 0, none⟩ = some (.slice ca S.cells.length cap) ∧ Z.cell? ⟨gS, 1, none⟩ = some (.bool S.fault)) := Hid.mk (fun Z kz => by
              obtain ⟨hd9, hq9⟩ := HDS.out Z (Fr.keep kz)
              obtain ⟨q0, q1, q2, q3, q4, q5, q6, q7⟩ := sfC_cells hq9
              obtain ⟨s0, s1, -⟩ := (HSV.out.keep kz).fs
              have g := HCL0.out Z (Fr.keep kz)
              have g0 := g 0 (by decide)
              have g1 := g 1 (by decide)
              have g2 := g 2 (by decide)
              have g3 := g 3 (by decide)
              have g4 := g 4 (by decide)
              have g5 := g 5 (by decide)
              have g6 := g 6 (by decide)
              simp only [efC, List.getElem?_cons_zero, List.getElem?_cons_succ, Nat.zero_mul, Nat.one_mul, Nat.reduceMul, Nat.add_zero] at g0 g1 g2 g3 g4 g5 g6
              exact ⟨q5, g0, g1, g2, g3, g4, g5, g6, s0, s1⟩)
            have HSS1 : Hid (∀ Z, Keep V Z → Z.cell? ⟨gQ, 5, none⟩ = some (.slice (some ⟨b, o, none⟩) ex.len ec) ∧ Z.cell? ⟨b, o + 7, none⟩ = some (.int .i64 x1.k) ∧ Z.cell? ⟨b, o + 7 + 1, none⟩ = some (.int .i64 x1.w) ∧ Z.cell? ⟨b, o + 7 + 2, none⟩ = some (.int .i64 x1.o) ∧ Z.cell? ⟨b, o + 7 + 3, none⟩ = some (.int .u64 (x1.v : Nat)) ∧ Z.cell? ⟨b, o + 7 + 4, none⟩ = some (.int .i64 x1.c) ∧ Z.cell? ⟨b, o + 7 + 5, none⟩ = some (.int .i64 x1.l) ∧ Z.cell? ⟨b, o + 7 + 6, none⟩ = some (.slice kx1 kn1 kc1) ∧ Z.cell? ⟨gS, 0, none⟩ = some (.slice ca S.cells.length cap) ∧ Z.cell? ⟨gS, 1, none⟩ = some (.bool S.fault)) := Hid.mk (fun Z kz => by
              obtain ⟨hd9, hq9⟩ := HDS.out Z (Fr.keep kz)
              obtain ⟨q0, q1, q2, q3, q4, q5, q6, q7⟩ := sfC_cells hq9
              obtain ⟨s0, s1, -⟩ := (HSV.out.keep kz).fs
              have g := HCL1.out Z (Fr.keep kz)
              have g0 := g 0 (by decide)
              have g1 := g 1 (by decide)
              have g2 := g 2 (by decide)
              have g3 := g 3 (by decide)
              have g4 := g 4 (by decide)
              have g5 := g 5 (by decide)
              have g6 := g 6 (by decide)
              simp only [efC, List.getElem?_cons_zero, List.getElem?_cons_succ, Nat.zero_mul, Nat.one_mul, Nat.reduceMul, Nat.add_zero] at g0 g1 g2 g3 g4 g5 g6
              exact ⟨q5, g0, g1, g2, g3, g4, g5, g6, s0, s1⟩)
            have HSS2 : Hid (∀ Z, Keep V Z → Z.cell? ⟨gQ, 5, none⟩ = some (.slice (some ⟨b, o, none⟩) ex.len ec) ∧ Z.cell? ⟨b, o + 14, none⟩ = some (.int .i64 x2.k) ∧ Z.cell? ⟨b, o + 14 + 1, none⟩ = some (.int .i64 x2.w) ∧ Z.cell? ⟨b, o + 14 + 2, none⟩ = some (.int .i64 x2.o) ∧ Z.cell? ⟨b, o + 14 + 3, none⟩ = some (.int .u64 (x2.v : Nat)) ∧ Z.cell? ⟨b, o + 14 + 4, none⟩ = some (.int .i64 x2.c) ∧ Z.cell? ⟨b, o + 14 + 5, none⟩ = some (.int .i64 x2.l) ∧ Z.cell? ⟨b, o + 14 + 6, none⟩ = some (.slice kx2 kn2 kc2) ∧ Z.cell? ⟨gS, 0, none⟩ = some (.slice ca S.cells.length cap) ∧ Z.cell? ⟨gS, 1, none⟩ = some (.bool S.fault)) := Hid.mk (fun Z kz => by
              obtain ⟨hd9, hq9⟩ := HDS.out Z (Fr.keep kz)
              obtain ⟨q0, q1, q2, q3, q4, q5, q6, q7⟩ := sfC_cells hq9
              obtain ⟨s0, s1, -⟩ := (HSV.out.keep kz).fs
              have g := HCL2.out Z (Fr.keep kz)
              have g0 := g 0 (by decide)
              have g1 := g 1 (by decide)
              have g2 := g 2 (by decide)
              have g3 := g 3 (by decide)
              have g4 := g 4 (by decide)
              have g5 := g 5 (by decide)
              have g6 := g 6 (by decide)
              simp only [efC, List.getElem?_cons_zero, List.getElem?_cons_succ, Nat.zero_mul, Nat.one_mul, Nat.reduceMul, Nat.add_zero] at g0 g1 g2 g3 g4 g5 g6
              exact ⟨q5, g0, g1, g2, g3, g4, g5, g6, s0, s1⟩)
            rw [kd] at q0
            rw [hC] at q1
            have HHC := Hid.mk hC
            have HCC := Hid.mk hCl
            have HCC1 := Hid.mk hCl1
            have m1 : (C : Int) < S.cells.length := by omega
            have m2 : (0 : Int) ≤ C := by omega
            have m3 : (C : Int) + 1 < S.cells.length := by omega
            have m5 : (0 : Int) ≤ (C : Int) + 1 := by omega
            have m4 : (C : Int) ≤ 1000000 := by have := HSL.out; rw [List.length_map] at this; omega
            have mw : IntKind.i64.wrap ((C : Int) + 1) = (C : Int) + 1 := by rw [IntKind.wrap_i64]; omega
            clear kd E c0 c1 c2 c3 y0 y1 y2 y3 hC hCl hCl1 hxw0 hlt0 hxw1 hlt1 hxw2 hlt2 hA hn1 het hmxl ht0 hA1 hA64
            go_wp2_with fail
            go_region_held3 (fun w' => w'.cell? ⟨gQ, 5, none⟩ = some (.slice (some ⟨b, o, none⟩) ex.len ec) ∧ w'.cell? ⟨b, o, none⟩ = some (.int .i64 x0.k) ∧ w'.cell? ⟨b, o + 1, none⟩ = some (.int .i64 x0.w) ∧ w'.cell? ⟨b, o + 2, none⟩ = some (.int .i64 x0.o) ∧ w'.cell? ⟨b, o + 3, none⟩ = some (.int .u64 (x0.v : Nat)) ∧ w'.cell? ⟨b, o + 4, none⟩ = some (.int .i64 x0.c) ∧ w'.cell? ⟨b, o + 5, none⟩ = some (.int .i64 x0.l) ∧ w'.cell? ⟨b, o + 6, none⟩ = some (.slice kx0 kn0 kc0) ∧ w'.cell? ⟨gS, 0, none⟩ = some (.slice ca S.cells.length cap) ∧ w'.cell? ⟨gS, 1, none⟩ = some (.bool S.fault)) (first | exact HSS0.out _ ((Keep.refl V).drew) | exact HSS0.out _ ((Keep.refl V).drew.trans k2)) (first | (go_at_call 36; refine (HCA0.out _ (Fr.keep (Keep.refl V).drew) (HSV.out.keep (Keep.refl V).drew).vs).mono ?_; rintro e w2 ⟨rfl, k2⟩))
            rename_i hHd
            clear hHd
            have HKw2 := Hid.mk ((Keep.refl V).drew.trans k2)
            clear k2
            go_wp2_with fail
            go_region_held3 (fun w' => w'.cell? ⟨gQ, 5, none⟩ = some (.slice (some ⟨b, o, none⟩) ex.len ec) ∧ w'.cell? ⟨b, o + 7, none⟩ = some (.int .i64 x1.k) ∧ w'.cell? ⟨b, o + 7 + 1, none⟩ = some (.int .i64 x1.w) ∧ w'.cell? ⟨b, o + 7 + 2, none⟩ = some (.int .i64 x1.o) ∧ w'.cell? ⟨b, o + 7 + 3, none⟩ = some (.int .u64 (x1.v : Nat)) ∧ w'.cell? ⟨b, o + 7 + 4, none⟩ = some (.int .i64 x1.c) ∧ w'.cell? ⟨b, o + 7 + 5, none⟩ = some (.int .i64 x1.l) ∧ w'.cell? ⟨b, o + 7 + 6, none⟩ = some (.slice kx1 kn1 kc1) ∧ w'.cell? ⟨gS, 0, none⟩ = some (.slice ca S.cells.length cap) ∧ w'.cell? ⟨gS, 1, none⟩ = some (.bool S.fault)) (first | exact HSS1.out _ (HKw2.out.drew) | exact HSS1.out _ (HKw2.out.drew.trans k2)) (first | (go_at_call 36; refine (HCA1.out _ (Fr.keep HKw2.out.drew) (HSV.out.keep HKw2.out.drew).vs).mono ?_; rintro e w3 ⟨rfl, k2⟩))
            rename_i hHd
            clear hHd
            have HKw3 := Hid.mk (HKw2.out.drew.trans k2)
            clear k2
            go_wp2_with fail
            go_region_held3 (fun w' => w'.cell? ⟨gQ, 5, none⟩ = some (.slice (some ⟨b, o, none⟩) ex.len ec) ∧ w'.cell? ⟨b, o + 14, none⟩ = some (.int .i64 x2.k) ∧ w'.cell? ⟨b, o + 14 + 1, none⟩ = some (.int .i64 x2.w) ∧ w'.cell? ⟨b, o + 14 + 2, none⟩ = some (.int .i64 x2.o) ∧ w'.cell? ⟨b, o + 14 + 3, none⟩ = some (.int .u64 (x2.v : Nat)) ∧ w'.cell? ⟨b, o + 14 + 4, none⟩ = some (.int .i64 x2.c) ∧ w'.cell? ⟨b, o + 14 + 5, none⟩ = some (.int .i64 x2.l) ∧ w'.cell? ⟨b, o + 14 + 6, none⟩ = some (.slice kx2 kn2 kc2) ∧ w'.cell? ⟨gS, 0, none⟩ = some (.slice ca S.cells.length cap) ∧ w'.cell? ⟨gS, 1, none⟩ = some (.bool S.fault)) (first | exact HSS2.out _ (HKw3.out.drew) | exact HSS2.out _ (HKw3.out.drew.trans k2)) (first | (go_at_call 36; refine (HCA2.out _ (Fr.keep HKw3.out.drew) (HSV.out.keep HKw3.out.drew).vs).mono ?_; rintro e w4 ⟨rfl, k2⟩))
            rename_i hHd
            clear hHd
            have HKw4 := Hid.mk (HKw3.out.drew.trans k2)
            clear k2
            have ST4 := HSV.out.keep HKw4.out
            obtain ⟨hca9, cC, fC⟩ := ST4.cell HCC.out
            obtain ⟨-, cC1, fC1⟩ := ST4.cell HCC1.out
            subst hca9
            have HST4 := Hid.mk ST4
            obtain ⟨hd9, hq9⟩ := HDS.out w4 (Fr.keep HKw4.out)
            obtain ⟨d0, d1, d2, d3, d4, d5, d6, d7, d8⟩ := prC_cells hd9
            obtain ⟨q0, q1, q2, q3, q4, q5, q6, q7⟩ := sfC_cells hq9
            obtain ⟨s0, s1, sf⟩ := (ST4).fs
            clear hd9 hq9
            rw [HHC.out] at q1
            have kw1 := (HSS1.out w4 HKw4.out).2.2.1
            rw [HX1.out] at kw1
            have ne1 : gC ≠ gS := Ne.symm HSV.out.ne
            have ne2 : gC ≠ gQ := fun e => HQN.out (Or.inr e.symm)
            have ne3 : gS ≠ gQ := fun e => HQN.out (Or.inl e.symm)
            clear ST4
            generalize S.at (C + 1) = et at *
            go_wp2_with fail
            go_region_held3 (fun w' => w'.cell? ⟨gS, 0, none⟩ = some (.slice (some ⟨gC, 0, none⟩) S.cells.length cap) ∧ w'.cell? ⟨gQ, 1, none⟩ = some (.int .i64 (C : Int)) ∧ w'.cell? ⟨gC, C + 1, none⟩ = some (.int .u64 ((et : Nat) : Int))) (first | exact ⟨s0, q1, cC1⟩ | go_keep) (fail)
            rename_i hHd
            clear hHd
            go_wp2_with fail
            refine (HLW.out _).mono ?_
            rintro e y ⟨rfl, hy⟩
            have hy2 := hy.symm
            clear hy
            subst hy2
            go_wp2_with fail
            refine (HS0.out _).mono ?_
            rintro e y ⟨rfl, hy⟩
            have hy2 := hy.symm
            clear hy
            subst hy2
            go_wp2_with fail
            refine (HSE.out _).mono ?_
            rintro e y ⟨rfl, hy⟩
            have hy2 := hy.symm
            clear hy
            subst hy2
            by_cases zs : sgn t0 A < sgn et A
            · rw [if_pos zs] at HTT
              obtain rfl : tt = mx := HTT.out
              clear HTT
              go_wp2_with fail
              refine (HMX.out _).mono ?_
              rintro e y ⟨rfl, hy⟩
              have hy2 := hy.symm
              clear hy
              subst hy2
              by_cases z : n0 = 0
              · subst z
                rw [if_pos rfl] at EQ
                go_wp2_with fail
                go_region_held3 (fun w' => w'.cell? ⟨gS, 0, none⟩ = some (.slice (some ⟨gC, 0, none⟩) S.cells.length cap) ∧ w'.cell? ⟨gQ, 1, none⟩ = some (.int .i64 (C : Int))) (first | exact ⟨s0, q1⟩ | go_keep) (fail)
                rename_i hHd
                clear hHd
                obtain ⟨w5, hw9⟩ : ∃ w5, w5 = ((w4.setCell ⟨gC, C, none⟩ (.int .u64 0)).setCell ⟨gC, C + 1, none⟩ (.int .u64 0)).drew.drew := ⟨_, rfl⟩
                rw [← hw9]
                have STw5 : StM w5 gS gC (some ⟨gC, 0, none⟩) cap sp ((S.put C 0).put (C + 1) 0) := by rw [hw9]; exact (((HST4.out.put HCC.out 0).put (i := C + 1) (by rw [put_len]; exact HCC1.out) 0)).keep ((Keep.refl _).drew.drew)
                have FRw5 : Fr (pS gS gC) V w5 := by rw [hw9]; exact (((Fr.keep HKw4.out).trans (frC _ gS gC _ _)).trans (frC _ gS gC _ _)).trans (Fr.keep ((Keep.refl _).drew.drew))
                have HSTw5 := Hid.mk STw5
                have HFRw5 := Hid.mk FRw5
                clear hw9 s0 s1 sf q0 q1 q2 q3 q4 q5 q6 q7 d0 d1 d2 d3 d4 d5 d6 d7 d8 cC fC cC1 fC1 kw1
                obtain ⟨s0, s1, sf⟩ := HSTw5.out.fs
                simp only [PS.put] at s0 s1
                rcases Bool.eq_false_or_eq_true S.fault with hs | hs
                · have HFS := Hid.mk hs
                  rw [hs] at s1
                  clear hs
                  go_wp2_with fail
                  refine Handed.intro (t.toL.length - (k + 1)) (by have := HK.out; omega) ?_
                  go_step
                  refine InvF.of (by rfl) rfl ⟨k + 1, by have := HK.out; omega, by first | rfl | (show Value.int _ _ = _; go_num), HFV.out.trans (HFRw5.out.trans (frS _ gS gC _)), ?_, rfl, rfl, rfl, rfl, rfl, rfl⟩
                  rw [HF.out, EQ.out, HFS.out]
                  exact HSTw5.out.flt _
                · have HFS := Hid.mk hs
                  rw [hs] at s1
                  clear hs
                  cases f0 <;> cases f1
                  all_goals
                    go_wp2_with fail
                    refine Handed.intro (t.toL.length - (k + 1)) (by have := HK.out; omega) ?_
                    go_step
                    refine InvF.of (by rfl) rfl ⟨k + 1, by have := HK.out; omega, by first | rfl | (show Value.int _ _ = _; go_num), HFV.out.trans (HFRw5.out.trans (frS _ gS gC _)), ?_, rfl, rfl, rfl, rfl, rfl, rfl⟩
                    rw [HF.out, EQ.out, HFS.out]
                    exact HSTw5.out.flt _
              · rw [if_neg z] at EQ
                have z2 : ((n0 : Int) == 0) = false := by simp; omega
                clear z
                go_wp2_with fail
                refine (HSM.out _).mono ?_
                rintro e y ⟨rfl, hy⟩
                have hy2 := hy.symm
                clear hy
                subst hy2
                go_wp2_with fail
                refine (HS1.out _).mono ?_
                rintro e y ⟨rfl, hy⟩
                have hy2 := hy.symm
                clear hy
                subst hy2
                by_cases zz : sgn n1 A ≤ sgn tt A
                · rw [if_pos zz] at EQ
                  go_wp2_with fail
                  go_region_held3 (fun w' => w'.cell? ⟨gS, 0, none⟩ = some (.slice (some ⟨gC, 0, none⟩) S.cells.length cap) ∧ w'.cell? ⟨gQ, 1, none⟩ = some (.int .i64 (C : Int))) (first | exact ⟨s0, q1⟩ | go_keep) (fail)
                  rename_i hHd
                  clear hHd
                  obtain ⟨w5, hw9⟩ : ∃ w5, w5 = ((w4.setCell ⟨gC, C, none⟩ (.int .u64 1)).setCell ⟨gC, C + 1, none⟩ (.int .u64 ((n1 : Nat) : Int))).drew.drew := ⟨_, rfl⟩
                  rw [← hw9]
                  have STw5 : StM w5 gS gC (some ⟨gC, 0, none⟩) cap sp ((S.put C 1).put (C + 1) n1) := by rw [hw9]; exact (((HST4.out.put HCC.out 1).put (i := C + 1) (by rw [put_len]; exact HCC1.out) n1)).keep ((Keep.refl _).drew.drew)
                  have FRw5 : Fr (pS gS gC) V w5 := by rw [hw9]; exact (((Fr.keep HKw4.out).trans (frC _ gS gC _ _)).trans (frC _ gS gC _ _)).trans (Fr.keep ((Keep.refl _).drew.drew))
                  have HSTw5 := Hid.mk STw5
                  have HFRw5 := Hid.mk FRw5
                  clear hw9 s0 s1 sf q0 q1 q2 q3 q4 q5 q6 q7 d0 d1 d2 d3 d4 d5 d6 d7 d8 cC fC cC1 fC1 kw1
                  obtain ⟨s0, s1, sf⟩ := HSTw5.out.fs
                  simp only [PS.put] at s0 s1
                  rcases Bool.eq_false_or_eq_true S.fault with hs | hs
                  · have HFS := Hid.mk hs
                    rw [hs] at s1
                    clear hs
                    go_wp2_with fail
                    refine Handed.intro (t.toL.length - (k + 1)) (by have := HK.out; omega) ?_
                    go_step
                    refine InvF.of (by rfl) rfl ⟨k + 1, by have := HK.out; omega, by first | rfl | (show Value.int _ _ = _; go_num), HFV.out.trans (HFRw5.out.trans (frS _ gS gC _)), ?_, rfl, rfl, rfl, rfl, rfl, rfl⟩
                    rw [HF.out, EQ.out, HFS.out]
                    exact HSTw5.out.flt _
                  · have HFS := Hid.mk hs
                    rw [hs] at s1
                    clear hs
                    cases f0 <;> cases f1
                    all_goals
                      go_wp2_with fail
                      refine Handed.intro (t.toL.length - (k + 1)) (by have := HK.out; omega) ?_
                      go_step
                      refine InvF.of (by rfl) rfl ⟨k + 1, by have := HK.out; omega, by first | rfl | (show Value.int _ _ = _; go_num), HFV.out.trans (HFRw5.out.trans (frS _ gS gC _)), ?_, rfl, rfl, rfl, rfl, rfl, rfl⟩
                      rw [HF.out, EQ.out, HFS.out]
                      exact HSTw5.out.flt _
                · rw [if_neg zz] at EQ
                  have zz2 : ¬ (sgn tt A ≥ sgn n1 A) := zz
                  go_wp2_with fail
                  go_region_held3 (fun w' => w'.cell? ⟨gS, 0, none⟩ = some (.slice (some ⟨gC, 0, none⟩) S.cells.length cap) ∧ w'.cell? ⟨gQ, 1, none⟩ = some (.int .i64 (C : Int))) (first | exact ⟨s0, q1⟩ | go_keep) (fail)
                  rename_i hHd
                  clear hHd
                  obtain ⟨w5, hw9⟩ : ∃ w5, w5 = ((w4.setCell ⟨gC, C, none⟩ (.int .u64 0)).setCell ⟨gC, C + 1, none⟩ (.int .u64 ((tt : Nat) : Int))).drew.drew := ⟨_, rfl⟩
                  rw [← hw9]
                  have STw5 : StM w5 gS gC (some ⟨gC, 0, none⟩) cap sp ((S.put C 0).put (C + 1) tt) := by rw [hw9]; exact (((HST4.out.put HCC.out 0).put (i := C + 1) (by rw [put_len]; exact HCC1.out) tt)).keep ((Keep.refl _).drew.drew)
                  have FRw5 : Fr (pS gS gC) V w5 := by rw [hw9]; exact (((Fr.keep HKw4.out).trans (frC _ gS gC _ _)).trans (frC _ gS gC _ _)).trans (Fr.keep ((Keep.refl _).drew.drew))
                  have HSTw5 := Hid.mk STw5
                  have HFRw5 := Hid.mk FRw5
                  clear hw9 s0 s1 sf q0 q1 q2 q3 q4 q5 q6 q7 d0 d1 d2 d3 d4 d5 d6 d7 d8 cC fC cC1 fC1 kw1
                  obtain ⟨s0, s1, sf⟩ := HSTw5.out.fs
                  simp only [PS.put] at s0 s1
                  rcases Bool.eq_false_or_eq_true S.fault with hs | hs
                  · have HFS := Hid.mk hs
                    rw [hs] at s1
                    clear hs
                    go_wp2_with fail
                    refine Handed.intro (t.toL.length - (k + 1)) (by have := HK.out; omega) ?_
                    go_step
                    refine InvF.of (by rfl) rfl ⟨k + 1, by have := HK.out; omega, by first | rfl | (show Value.int _ _ = _; go_num), HFV.out.trans (HFRw5.out.trans (frS _ gS gC _)), ?_, rfl, rfl, rfl, rfl, rfl, rfl⟩
                    rw [HF.out, EQ.out, HFS.out]
                    exact HSTw5.out.flt _
                  · have HFS := Hid.mk hs
                    rw [hs] at s1
                    clear hs
                    cases f0 <;> cases f1
                    all_goals
                      go_wp2_with fail
                      refine Handed.intro (t.toL.length - (k + 1)) (by have := HK.out; omega) ?_
                      go_step
                      refine InvF.of (by rfl) rfl ⟨k + 1, by have := HK.out; omega, by first | rfl | (show Value.int _ _ = _; go_num), HFV.out.trans (HFRw5.out.trans (frS _ gS gC _)), ?_, rfl, rfl, rfl, rfl, rfl, rfl⟩
                      rw [HF.out, EQ.out, HFS.out]
                      exact HSTw5.out.flt _
            · rw [if_neg zs] at HTT
              obtain rfl : tt = t0 := HTT.out
              clear HTT
              by_cases z : n0 = 0
              · subst z
                rw [if_pos rfl] at EQ
                go_wp2_with fail
                go_region_held3 (fun w' => w'.cell? ⟨gS, 0, none⟩ = some (.slice (some ⟨gC, 0, none⟩) S.cells.length cap) ∧ w'.cell? ⟨gQ, 1, none⟩ = some (.int .i64 (C : Int))) (first | exact ⟨s0, q1⟩ | go_keep) (fail)
                rename_i hHd
                clear hHd
                obtain ⟨w5, hw9⟩ : ∃ w5, w5 = ((w4.setCell ⟨gC, C, none⟩ (.int .u64 0)).setCell ⟨gC, C + 1, none⟩ (.int .u64 0)).drew.drew := ⟨_, rfl⟩
                rw [← hw9]
                have STw5 : StM w5 gS gC (some ⟨gC, 0, none⟩) cap sp ((S.put C 0).put (C + 1) 0) := by rw [hw9]; exact (((HST4.out.put HCC.out 0).put (i := C + 1) (by rw [put_len]; exact HCC1.out) 0)).keep ((Keep.refl _).drew.drew)
                have FRw5 : Fr (pS gS gC) V w5 := by rw [hw9]; exact (((Fr.keep HKw4.out).trans (frC _ gS gC _ _)).trans (frC _ gS gC _ _)).trans (Fr.keep ((Keep.refl _).drew.drew))
                have HSTw5 := Hid.mk STw5
                have HFRw5 := Hid.mk FRw5
                clear hw9 s0 s1 sf q0 q1 q2 q3 q4 q5 q6 q7 d0 d1 d2 d3 d4 d5 d6 d7 d8 cC fC cC1 fC1 kw1
                obtain ⟨s0, s1, sf⟩ := HSTw5.out.fs
                simp only [PS.put] at s0 s1
                rcases Bool.eq_false_or_eq_true S.fault with hs | hs
                · have HFS := Hid.mk hs
                  rw [hs] at s1
                  clear hs
                  go_wp2_with fail
                  refine Handed.intro (t.toL.length - (k + 1)) (by have := HK.out; omega) ?_
                  go_step
                  refine InvF.of (by rfl) rfl ⟨k + 1, by have := HK.out; omega, by first | rfl | (show Value.int _ _ = _; go_num), HFV.out.trans (HFRw5.out.trans (frS _ gS gC _)), ?_, rfl, rfl, rfl, rfl, rfl, rfl⟩
                  rw [HF.out, EQ.out, HFS.out]
                  exact HSTw5.out.flt _
                · have HFS := Hid.mk hs
                  rw [hs] at s1
                  clear hs
                  cases f0 <;> cases f1
                  all_goals
                    go_wp2_with fail
                    refine Handed.intro (t.toL.length - (k + 1)) (by have := HK.out; omega) ?_
                    go_step
                    refine InvF.of (by rfl) rfl ⟨k + 1, by have := HK.out; omega, by first | rfl | (show Value.int _ _ = _; go_num), HFV.out.trans (HFRw5.out.trans (frS _ gS gC _)), ?_, rfl, rfl, rfl, rfl, rfl, rfl⟩
                    rw [HF.out, EQ.out, HFS.out]
                    exact HSTw5.out.flt _
              · rw [if_neg z] at EQ
                have z2 : ((n0 : Int) == 0) = false := by simp; omega
                clear z
                go_wp2_with fail
                refine (HS0.out _).mono ?_
                rintro e y ⟨rfl, hy⟩
                have hy2 := hy.symm
                clear hy
                subst hy2
                go_wp2_with fail
                refine (HS1.out _).mono ?_
                rintro e y ⟨rfl, hy⟩
                have hy2 := hy.symm
                clear hy
                subst hy2
                by_cases zz : sgn n1 A ≤ sgn tt A
                · rw [if_pos zz] at EQ
                  go_wp2_with fail
                  go_region_held3 (fun w' => w'.cell? ⟨gS, 0, none⟩ = some (.slice (some ⟨gC, 0, none⟩) S.cells.length cap) ∧ w'.cell? ⟨gQ, 1, none⟩ = some (.int .i64 (C : Int))) (first | exact ⟨s0, q1⟩ | go_keep) (fail)
                  rename_i hHd
                  clear hHd
                  obtain ⟨w5, hw9⟩ : ∃ w5, w5 = ((w4.setCell ⟨gC, C, none⟩ (.int .u64 1)).setCell ⟨gC, C + 1, none⟩ (.int .u64 ((n1 : Nat) : Int))).drew.drew := ⟨_, rfl⟩
                  rw [← hw9]
                  have STw5 : StM w5 gS gC (some ⟨gC, 0, none⟩) cap sp ((S.put C 1).put (C + 1) n1) := by rw [hw9]; exact (((HST4.out.put HCC.out 1).put (i := C + 1) (by rw [put_len]; exact HCC1.out) n1)).keep ((Keep.refl _).drew.drew)
                  have FRw5 : Fr (pS gS gC) V w5 := by rw [hw9]; exact (((Fr.keep HKw4.out).trans (frC _ gS gC _ _)).trans (frC _ gS gC _ _)).trans (Fr.keep ((Keep.refl _).drew.drew))
                  have HSTw5 := Hid.mk STw5
                  have HFRw5 := Hid.mk FRw5
                  clear hw9 s0 s1 sf q0 q1 q2 q3 q4 q5 q6 q7 d0 d1 d2 d3 d4 d5 d6 d7 d8 cC fC cC1 fC1 kw1
                  obtain ⟨s0, s1, sf⟩ := HSTw5.out.fs
                  simp only [PS.put] at s0 s1
                  rcases Bool.eq_false_or_eq_true S.fault with hs | hs
                  · have HFS := Hid.mk hs
                    rw [hs] at s1
                    clear hs
                    go_wp2_with fail
                    refine Handed.intro (t.toL.length - (k + 1)) (by have := HK.out; omega) ?_
                    go_step
                    refine InvF.of (by rfl) rfl ⟨k + 1, by have := HK.out; omega, by first | rfl | (show Value.int _ _ = _; go_num), HFV.out.trans (HFRw5.out.trans (frS _ gS gC _)), ?_, rfl, rfl, rfl, rfl, rfl, rfl⟩
                    rw [HF.out, EQ.out, HFS.out]
                    exact HSTw5.out.flt _
                  · have HFS := Hid.mk hs
                    rw [hs] at s1
                    clear hs
                    cases f0 <;> cases f1
                    all_goals
                      go_wp2_with fail
                      refine Handed.intro (t.toL.length - (k + 1)) (by have := HK.out; omega) ?_
                      go_step
                      refine InvF.of (by rfl) rfl ⟨k + 1, by have := HK.out; omega, by first | rfl | (show Value.int _ _ = _; go_num), HFV.out.trans (HFRw5.out.trans (frS _ gS gC _)), ?_, rfl, rfl, rfl, rfl, rfl, rfl⟩
                      rw [HF.out, EQ.out, HFS.out]
                      exact HSTw5.out.flt _
                · rw [if_neg zz] at EQ
                  have zz2 : ¬ (sgn tt A ≥ sgn n1 A) := zz
                  go_wp2_with fail
                  go_region_held3 (fun w' => w'.cell? ⟨gS, 0, none⟩ = some (.slice (some ⟨gC, 0, none⟩) S.cells.length cap) ∧ w'.cell? ⟨gQ, 1, none⟩ = some (.int .i64 (C : Int))) (first | exact ⟨s0, q1⟩ | go_keep) (fail)
                  rename_i hHd
                  clear hHd
                  obtain ⟨w5, hw9⟩ : ∃ w5, w5 = ((w4.setCell ⟨gC, C, none⟩ (.int .u64 0)).setCell ⟨gC, C + 1, none⟩ (.int .u64 ((tt : Nat) : Int))).drew.drew := ⟨_, rfl⟩
                  rw [← hw9]
                  have STw5 : StM w5 gS gC (some ⟨gC, 0, none⟩) cap sp ((S.put C 0).put (C + 1) tt) := by rw [hw9]; exact (((HST4.out.put HCC.out 0).put (i := C + 1) (by rw [put_len]; exact HCC1.out) tt)).keep ((Keep.refl _).drew.drew)
                  have FRw5 : Fr (pS gS gC) V w5 := by rw [hw9]; exact (((Fr.keep HKw4.out).trans (frC _ gS gC _ _)).trans (frC _ gS gC _ _)).trans (Fr.keep ((Keep.refl _).drew.drew))
                  have HSTw5 := Hid.mk STw5
                  have HFRw5 := Hid.mk FRw5
                  clear hw9 s0 s1 sf q0 q1 q2 q3 q4 q5 q6 q7 d0 d1 d2 d3 d4 d5 d6 d7 d8 cC fC cC1 fC1 kw1
                  obtain ⟨s0, s1, sf⟩ := HSTw5.out.fs
                  simp only [PS.put] at s0 s1
                  rcases Bool.eq_false_or_eq_true S.fault with hs | hs
                  · have HFS := Hid.mk hs
                    rw [hs] at s1
                    clear hs
                    go_wp2_with fail
                    refine Handed.intro (t.toL.length - (k + 1)) (by have := HK.out; omega) ?_
                    go_step
                    refine InvF.of (by rfl) rfl ⟨k + 1, by have := HK.out; omega, by first | rfl | (show Value.int _ _ = _; go_num), HFV.out.trans (HFRw5.out.trans (frS _ gS gC _)), ?_, rfl, rfl, rfl, rfl, rfl, rfl⟩
                    rw [HF.out, EQ.out, HFS.out]
                    exact HSTw5.out.flt _
                  · have HFS := Hid.mk hs
                    rw [hs] at s1
                    clear hs
                    cases f0 <;> cases f1
                    all_goals
                      go_wp2_with fail
                      refine Handed.intro (t.toL.length - (k + 1)) (by have := HK.out; omega) ?_
                      go_step
                      refine InvF.of (by rfl) rfl ⟨k + 1, by have := HK.out; omega, by first | rfl | (show Value.int _ _ = _; go_num), HFV.out.trans (HFRw5.out.trans (frS _ gS gC _)), ?_, rfl, rfl, rfl, rfl, rfl, rfl⟩
                      rw [HF.out, EQ.out, HFS.out]
                      exact HSTw5.out.flt _
        · as_aux_lemma =>
            have hexl : ex.toL.length = 3 := by have := ws_len ex; rw [E] at this; simpa [EL.len] using this.symm
            have hexi : (ex.len : Int) = 3 := by unfold EL.len; omega
            obtain ⟨b, o, kx0, kn0, kc0, ha0, hcl0, hca0⟩ := KCN.out 0 (by omega)
            have hxw0 : ex.toL[0].1.w = ex.ws.getD 0 0 := (ws_get ex 0 (by omega)).symm
            have hlt0 := evL_lt HOK.out HWX.out.1 0 (by omega)
            rw [E] at hxw0 hlt0
            simp only [List.getD_cons_zero, List.getD_cons_succ, kw] at hxw0 hlt0
            subst ha0
            obtain ⟨b1, o1, kx1, kn1, kc1, ha1, hcl1, hca1⟩ := KCN.out 1 (by omega)
            have hxw1 : ex.toL[1].1.w = ex.ws.getD 1 0 := (ws_get ex 1 (by omega)).symm
            have hlt1 := evL_lt HOK.out HWX.out.1 1 (by omega)
            rw [E] at hxw1 hlt1
            simp only [List.getD_cons_zero, List.getD_cons_succ, kw] at hxw1 hlt1
            obtain ⟨rfl, rfl⟩ : b = b1 ∧ o = o1 := by simpa using ha1
            clear ha1
            obtain ⟨b2, o2, kx2, kn2, kc2, ha2, hcl2, hca2⟩ := KCN.out 2 (by omega)
            have hxw2 : ex.toL[2].1.w = ex.ws.getD 2 0 := (ws_get ex 2 (by omega)).symm
            have hlt2 := evL_lt HOK.out HWX.out.1 2 (by omega)
            rw [E] at hxw2 hlt2
            simp only [List.getD_cons_zero, List.getD_cons_succ, kw] at hxw2 hlt2
            obtain ⟨rfl, rfl⟩ : b = b2 ∧ o = o2 := by simpa using ha2
            clear ha2
            generalize ex.toL[0].1 = x0 at *
            have HCA0 := Hid.mk hca0
            have HCL0 := Hid.mk hcl0
            generalize ex.toL[1].1 = x1 at *
            have HCA1 := Hid.mk hca1
            have HCL1 := Hid.mk hcl1
            generalize ex.toL[2].1 = x2 at *
            have HCA2 := Hid.mk hca2
            have HCL2 := Hid.mk hcl2
            have HAF : Hid (anyF (evL ex S) = (kf (evL ex S) 0 || kf (evL ex S) 1 || kf (evL ex S) 2)) := Hid.mk (by
              have hl9 := evL_len ex S
              rw [hexl] at hl9
              generalize evL ex S = ee at *
              match ee, hl9 with
              | [a, b, c], _ => simp [anyF, kf, Bool.or_assoc])
            clear hca0 hcl0 hca1 hcl1 hca2 hcl2 hexl KCN
            obtain ⟨c0, c1, c2, c3⟩ := hcc
            obtain ⟨C, hC⟩ : ∃ C : Nat, f.c = C := ⟨f.c.toNat, by omega⟩
            obtain ⟨A, hA⟩ : ∃ A : Nat, a0 = A := ⟨a0.toNat, by omega⟩
            obtain ⟨y0, y1, y2, y3⟩ := hcd
            have hA1 : 1 ≤ A := by omega
            have hA64 : A ≤ 64 := by omega
            have hCl : C < S.cells.length := by have := HSL.out; omega
            have hCl1 : C + 1 < S.cells.length := by have := HSL.out; omega
            have het : S.at (C + 1) < 2 ^ A := by
              have h9 := HOK.out.2 (C + 1) (by have := HSL.out; omega)
              have h8 := y3 0 (by decide)
              rw [Nat.add_zero, show (f.c + 1).toNat = C + 1 by omega] at h8
              rw [h8, hA] at h9
              exact h9
            have HSG : Hid (∀ v, v < 2 ^ A → Pure1 37 #[.int .u64 (v : Nat), .int .i64 (A : Nat)] (.int .i64 (sgn v A))) := Hid.mk (fun v hv => signed_c v A hv hA1 hA64)
            have HMX := Hid.mk (max_c A hA64)
            have hmxl := max_lt (w := A) hA1
            obtain ⟨u0, u1, u2, u3⟩ := hce
            have hCl2 : C + 2 < S.cells.length := by have := HSL.out; omega
            obtain ⟨cvv, hcvv⟩ : ∃ cvv, cvv = (if kv (evL ex S) 1 = 1 then 0 else if kv (evL ex S) 0 = 1 ∧ S.at (C + 2) = 0 ∧ S.at (C + 1) ≠ (2 ^ A - 1) / 2 then wop 0 (S.at (C + 1)) 1 A else S.at (C + 1)) := ⟨_, rfl⟩
            have EQ : Hid (S9 = ⟨(((S.put C (decide (sgn (kv (evL ex S) 2) A ≤ sgn cvv A)).toNat).put (C + 1) cvv).put (C + 2) (kv (evL ex S) 0)).cells, S.fault || (kf (evL ex S) 0 || kf (evL ex S) 1 || kf (evL ex S) 2)⟩) := Hid.mk (by rw [hcvv, HEXO.out]; simp only [exOne, kd, HAF.out, hC, E, kw, List.getD_cons_zero, List.getD_cons_succ, hA, Int.toNat_natCast]; rfl)
            have hn2 : kv (evL ex S) 2 < 2 ^ A := by rw [hA] at hlt2; simpa using hlt2.2.2
            have HLW := Hid.mk (low_i ((S.at (C + 1) : Int) + ((1 : Nat) : Int)) hA64)
            rw [wop0] at HLW
            have ht0 := wop_lt (op := 0) (y := 1) hA1 het (by decide)
            generalize wop 0 (S.at (C + 1)) 1 A = t0 at *
            generalize (2 ^ A - 1) / 2 = mx at *
            have HX2 : Hid (x2.w = (A : Int)) := Hid.mk (by rw [hxw2, hA])
            have HSE := Hid.mk (HSG.out _ het)
            have HS0 := Hid.mk (HSG.out _ ht0)
            have HSZ9 := Hid.mk (HSG.out 0 (Nat.two_pow_pos A))
            have HSP := Hid.mk (HSG.out _ hn2)
            have HCVV := Hid.mk hcvv
            clear hcvv
            generalize kv (evL ex S) 0 = n0 at *
            generalize kf (evL ex S) 0 = f0 at *
            generalize kv (evL ex S) 1 = n1 at *
            generalize kf (evL ex S) 1 = f1 at *
            generalize kv (evL ex S) 2 = n2 at *
            generalize kf (evL ex S) 2 = f2 at *
            have HSS0 : Hid (∀ Z, Keep V Z → Z.cell? ⟨gQ, 5, none⟩ = some (.slice (some ⟨b, o, none⟩) ex.len ec) ∧ Z.cell? ⟨b, o, none⟩ = some (.int .i64 x0.k) ∧ Z.cell? ⟨b, o + 1, none⟩ = some (.int .i64 x0.w) ∧ Z.cell? ⟨b, o + 2, none⟩ = some (.int .i64 x0.o) ∧ Z.cell? ⟨b, o + 3, none⟩ = some (.int .u64 (x0.v : Nat)) ∧ Z.cell? ⟨b, o + 4, none⟩ = some (.int .i64 x0.c) ∧ Z.cell? ⟨b, o + 5, none⟩ = some (.int .i64 x0.l) ∧ Z.cell? ⟨b, o + 6, none⟩ = some (.slice kx0 kn0 kc0) ∧ Z.cell? ⟨gS, 0, none⟩ = some (.slice ca S.cells.length cap) ∧ Z.cell? ⟨gS, 1, none⟩ = some (.bool S.fault)) := Hid.mk (fun Z kz => by
              obtain ⟨hd9, hq9⟩ := HDS.out Z (Fr.keep kz)
              obtain ⟨q0, q1, q2, q3, q4, q5, q6, q7⟩ := sfC_cells hq9
              obtain ⟨s0, s1, -⟩ := (HSV.out.keep kz).fs
              have g := HCL0.out Z (Fr.keep kz)
              have g0 := g 0 (by decide)
              have g1 := g 1 (by decide)
              have g2 := g 2 (by decide)
              have g3 := g 3 (by decide)
              have g4 := g 4 (by decide)
              have g5 := g 5 (by decide)
              have g6 := g 6 (by decide)
              simp only [efC, List.getElem?_cons_zero, List.getElem?_cons_succ, Nat.zero_mul, Nat.one_mul, Nat.reduceMul, Nat.add_zero] at g0 g1 g2 g3 g4 g5 g6
              exact ⟨q5, g0, g1, g2, g3, g4, g5, g6, s0, s1⟩)
            have HSS1 : Hid (∀ Z, Keep V Z → Z.cell? ⟨gQ, 5, none⟩ = some (.slice (some ⟨b, o, none⟩) ex.len ec) ∧ Z.cell? ⟨b, o + 7, none⟩ = some (.int .i64 x1.k) ∧ Z.cell? ⟨b, o + 7 + 1, none⟩ = some (.int .i64 x1.w) ∧ Z.cell? ⟨b, o + 7 + 2, none⟩ = some (.int .i64 x1.o) ∧ Z.cell? ⟨b, o + 7 + 3, none⟩ = some (.int .u64 (x1.v : Nat)) ∧ Z.cell? ⟨b, o + 7 + 4, none⟩ = some (.int .i64 x1.c) ∧ Z.cell? ⟨b, o + 7 + 5, none⟩ = some (.int .i64 x1.l) ∧ Z.cell? ⟨b, o + 7 + 6, none⟩ = some (.slice kx1 kn1 kc1) ∧ Z.cell? ⟨gS, 0, none⟩ = some (.slice ca S.cells.length cap) ∧ Z.cell? ⟨gS, 1, none⟩ = some (.bool S.fault)) := Hid.mk (fun Z kz => by
              obtain ⟨hd9, hq9⟩ := HDS.out Z (Fr.keep kz)
              obtain ⟨q0, q1, q2, q3, q4, q5, q6, q7⟩ := sfC_cells hq9
              obtain ⟨s0, s1, -⟩ := (HSV.out.keep kz).fs
              have g := HCL1.out Z (Fr.keep kz)
              have g0 := g 0 (by decide)
              have g1 := g 1 (by decide)
              have g2 := g 2 (by decide)
              have g3 := g 3 (by decide)
              have g4 := g 4 (by decide)
              have g5 := g 5 (by decide)
              have g6 := g 6 (by decide)
              simp only [efC, List.getElem?_cons_zero, List.getElem?_cons_succ, Nat.zero_mul, Nat.one_mul, Nat.reduceMul, Nat.add_zero] at g0 g1 g2 g3 g4 g5 g6
              exact ⟨q5, g0, g1, g2, g3, g4, g5, g6, s0, s1⟩)
            have HSS2 : Hid (∀ Z, Keep V Z → Z.cell? ⟨gQ, 5, none⟩ = some (.slice (some ⟨b, o, none⟩) ex.len ec) ∧ Z.cell? ⟨b, o + 14, none⟩ = some (.int .i64 x2.k) ∧ Z.cell? ⟨b, o + 14 + 1, none⟩ = some (.int .i64 x2.w) ∧ Z.cell? ⟨b, o + 14 + 2, none⟩ = some (.int .i64 x2.o) ∧ Z.cell? ⟨b, o + 14 + 3, none⟩ = some (.int .u64 (x2.v : Nat)) ∧ Z.cell? ⟨b, o + 14 + 4, none⟩ = some (.int .i64 x2.c) ∧ Z.cell? ⟨b, o + 14 + 5, none⟩ = some (.int .i64 x2.l) ∧ Z.cell? ⟨b, o + 14 + 6, none⟩ = some (.slice kx2 kn2 kc2) ∧ Z.cell? ⟨gS, 0, none⟩ = some (.slice ca S.cells.length cap) ∧ Z.cell? ⟨gS, 1, none⟩ = some (.bool S.fault)) := Hid.mk (fun Z kz => by
              obtain ⟨hd9, hq9⟩ := HDS.out Z (Fr.keep kz)
              obtain ⟨q0, q1, q2, q3, q4, q5, q6, q7⟩ := sfC_cells hq9
              obtain ⟨s0, s1, -⟩ := (HSV.out.keep kz).fs
              have g := HCL2.out Z (Fr.keep kz)
              have g0 := g 0 (by decide)
              have g1 := g 1 (by decide)
              have g2 := g 2 (by decide)
              have g3 := g 3 (by decide)
              have g4 := g 4 (by decide)
              have g5 := g 5 (by decide)
              have g6 := g 6 (by decide)
              simp only [efC, List.getElem?_cons_zero, List.getElem?_cons_succ, Nat.zero_mul, Nat.one_mul, Nat.reduceMul, Nat.add_zero] at g0 g1 g2 g3 g4 g5 g6
              exact ⟨q5, g0, g1, g2, g3, g4, g5, g6, s0, s1⟩)
            rw [kd] at q0
            rw [hC] at q1
            have HHC := Hid.mk hC
            have HCC := Hid.mk hCl
            have HCC1 := Hid.mk hCl1
            have HCC2 := Hid.mk hCl2
            have m1 : (C : Int) < S.cells.length := by omega
            have m2 : (0 : Int) ≤ C := by omega
            have m3 : (C : Int) + 1 < S.cells.length := by omega
            have m5 : (0 : Int) ≤ (C : Int) + 1 := by omega
            have m4 : (C : Int) ≤ 1000000 := by have := HSL.out; rw [List.length_map] at this; omega
            have mw : IntKind.i64.wrap ((C : Int) + 1) = (C : Int) + 1 := by rw [IntKind.wrap_i64]; omega
            have m6 : (C : Int) + 2 < S.cells.length := by omega
            have m7 : (0 : Int) ≤ (C : Int) + 2 := by omega
            have mw2 : IntKind.i64.wrap ((C : Int) + 2) = (C : Int) + 2 := by rw [IntKind.wrap_i64]; omega
            have mt2 : ((C : Int) + 2).toNat = C + 2 := by omega
            have HMW1 : Hid (IntKind.i64.wrap (((C : Nat) : Int) + 1) = ((C + 1 : Nat) : Int)) := Hid.mk (by rw [IntKind.wrap_i64]; omega)
            have HMW2 : Hid (IntKind.i64.wrap (((C : Nat) : Int) + 2) = ((C + 2 : Nat) : Int)) := Hid.mk (by rw [mw2]; omega)
            clear kd E c0 c1 c2 c3 y0 y1 y2 y3 u0 u1 u2 u3 hC hCl hCl1 hCl2 hxw0 hlt0 hxw1 hlt1 hxw2 hlt2 hA hn2 het hmxl ht0 hA1 hA64
            go_wp2_with fail
            go_region_held3 (fun w' => w'.cell? ⟨gQ, 5, none⟩ = some (.slice (some ⟨b, o, none⟩) ex.len ec) ∧ w'.cell? ⟨b, o, none⟩ = some (.int .i64 x0.k) ∧ w'.cell? ⟨b, o + 1, none⟩ = some (.int .i64 x0.w) ∧ w'.cell? ⟨b, o + 2, none⟩ = some (.int .i64 x0.o) ∧ w'.cell? ⟨b, o + 3, none⟩ = some (.int .u64 (x0.v : Nat)) ∧ w'.cell? ⟨b, o + 4, none⟩ = some (.int .i64 x0.c) ∧ w'.cell? ⟨b, o + 5, none⟩ = some (.int .i64 x0.l) ∧ w'.cell? ⟨b, o + 6, none⟩ = some (.slice kx0 kn0 kc0) ∧ w'.cell? ⟨gS, 0, none⟩ = some (.slice ca S.cells.length cap) ∧ w'.cell? ⟨gS, 1, none⟩ = some (.bool S.fault)) (first | exact HSS0.out _ ((Keep.refl V).drew) | exact HSS0.out _ ((Keep.refl V).drew.trans k2)) (first | (go_at_call 36; refine (HCA0.out _ (Fr.keep (Keep.refl V).drew) (HSV.out.keep (Keep.refl V).drew).vs).mono ?_; rintro e w2 ⟨rfl, k2⟩))
            rename_i hHd
            clear hHd
            have HKw2 := Hid.mk ((Keep.refl V).drew.trans k2)
            clear k2
            go_wp2_with fail
            go_region_held3 (fun w' => w'.cell? ⟨gQ, 5, none⟩ = some (.slice (some ⟨b, o, none⟩) ex.len ec) ∧ w'.cell? ⟨b, o + 7, none⟩ = some (.int .i64 x1.k) ∧ w'.cell? ⟨b, o + 7 + 1, none⟩ = some (.int .i64 x1.w) ∧ w'.cell? ⟨b, o + 7 + 2, none⟩ = some (.int .i64 x1.o) ∧ w'.cell? ⟨b, o + 7 + 3, none⟩ = some (.int .u64 (x1.v : Nat)) ∧ w'.cell? ⟨b, o + 7 + 4, none⟩ = some (.int .i64 x1.c) ∧ w'.cell? ⟨b, o + 7 + 5, none⟩ = some (.int .i64 x1.l) ∧ w'.cell? ⟨b, o + 7 + 6, none⟩ = some (.slice kx1 kn1 kc1) ∧ w'.cell? ⟨gS, 0, none⟩ = some (.slice ca S.cells.length cap) ∧ w'.cell? ⟨gS, 1, none⟩ = some (.bool S.fault)) (first | exact HSS1.out _ (HKw2.out.drew) | exact HSS1.out _ (HKw2.out.drew.trans k2)) (first | (go_at_call 36; refine (HCA1.out _ (Fr.keep HKw2.out.drew) (HSV.out.keep HKw2.out.drew).vs).mono ?_; rintro e w3 ⟨rfl, k2⟩))
            rename_i hHd
            clear hHd
            have HKw3 := Hid.mk (HKw2.out.drew.trans k2)
            clear k2
            go_wp2_with fail
            go_region_held3 (fun w' => w'.cell? ⟨gQ, 5, none⟩ = some (.slice (some ⟨b, o, none⟩) ex.len ec) ∧ w'.cell? ⟨b, o + 14, none⟩ = some (.int .i64 x2.k) ∧ w'.cell? ⟨b, o + 14 + 1, none⟩ = some (.int .i64 x2.w) ∧ w'.cell? ⟨b, o + 14 + 2, none⟩ = some (.int .i64 x2.o) ∧ w'.cell? ⟨b, o + 14 + 3, none⟩ = some (.int .u64 (x2.v : Nat)) ∧ w'.cell? ⟨b, o + 14 + 4, none⟩ = some (.int .i64 x2.c) ∧ w'.cell? ⟨b, o + 14 + 5, none⟩ = some (.int .i64 x2.l) ∧ w'.cell? ⟨b, o + 14 + 6, none⟩ = some (.slice kx2 kn2 kc2) ∧ w'.cell? ⟨gS, 0, none⟩ = some (.slice ca S.cells.length cap) ∧ w'.cell? ⟨gS, 1, none⟩ = some (.bool S.fault)) (first | exact HSS2.out _ (HKw3.out.drew) | exact HSS2.out _ (HKw3.out.drew.trans k2)) (first | (go_at_call 36; refine (HCA2.out _ (Fr.keep HKw3.out.drew) (HSV.out.keep HKw3.out.drew).vs).mono ?_; rintro e w4 ⟨rfl, k2⟩))
            rename_i hHd
            clear hHd
            have HKw4 := Hid.mk (HKw3.out.drew.trans k2)
            clear k2
            have ST4 := HSV.out.keep HKw4.out
            obtain ⟨hca9, cC, fC⟩ := ST4.cell HCC.out
            obtain ⟨-, cC1, fC1⟩ := ST4.cell HCC1.out
            obtain ⟨-, cC2, fC2⟩ := ST4.cell HCC2.out
            subst hca9
            have HST4 := Hid.mk ST4
            obtain ⟨hd9, hq9⟩ := HDS.out w4 (Fr.keep HKw4.out)
            obtain ⟨d0, d1, d2, d3, d4, d5, d6, d7, d8⟩ := prC_cells hd9
            obtain ⟨q0, q1, q2, q3, q4, q5, q6, q7⟩ := sfC_cells hq9
            obtain ⟨s0, s1, sf⟩ := (ST4).fs
            clear hd9 hq9
            rw [HHC.out] at q1
            have kw2 := (HSS2.out w4 HKw4.out).2.2.1
            rw [HX2.out] at kw2
            have ne1 : gC ≠ gS := Ne.symm HSV.out.ne
            have ne2 : gC ≠ gQ := fun e => HQN.out (Or.inr e.symm)
            have ne3 : gS ≠ gQ := fun e => HQN.out (Or.inl e.symm)
            clear ST4
            go_wp2_with fail
            go_region_held3 (fun w' => w'.cell? ⟨gS, 0, none⟩ = some (.slice (some ⟨gC, 0, none⟩) S.cells.length cap) ∧ w'.cell? ⟨gQ, 1, none⟩ = some (.int .i64 (C : Int)) ∧ w'.cell? ⟨gC, C + 1, none⟩ = some (.int .u64 ((S.at (C + 1) : Nat) : Int))) (first | exact ⟨s0, q1, cC1⟩ | go_keep) (fail)
            rename_i hHd
            clear hHd
            obtain ⟨w5, hw9⟩ : ∃ w5, w5 = w4.drew := ⟨_, rfl⟩
            rw [← hw9]
            have STw5 : StM w5 gS gC (some ⟨gC, 0, none⟩) cap sp S := by rw [hw9]; exact HST4.out.keep ((Keep.refl _).drew)
            have FRw5 : Fr (pS gS gC) V w5 := by rw [hw9]; exact (Fr.keep HKw4.out).trans (Fr.keep ((Keep.refl _).drew))
            have HSTw5 := Hid.mk STw5
            have HFRw5 := Hid.mk FRw5
            clear hw9 s0 s1 sf q0 q1 q2 q3 q4 q5 q6 q7 d0 d1 d2 d3 d4 d5 d6 d7 d8 cC fC cC1 fC1 cC2 fC2 kw2
            clear STw5 FRw5
            have ST9 := HSTw5.out
            have FR9 := HFRw5.out
            obtain ⟨hd9, hq9⟩ := HDS.out w5 FR9
            obtain ⟨d0, d1, d2, d3, d4, d5, d6, d7, d8⟩ := prC_cells hd9
            obtain ⟨q0, q1, q2, q3, q4, q5, q6, q7⟩ := sfC_cells hq9
            obtain ⟨s0, s1, sf⟩ := (ST9).fs
            clear hd9 hq9
            rw [HHC.out] at q1
            obtain ⟨-, cC, fC⟩ := ST9.cell HCC.out
            obtain ⟨-, cC1, fC1⟩ := ST9.cell HCC1.out
            obtain ⟨-, cC2, fC2⟩ := ST9.cell HCC2.out
            clear ST9 FR9
            by_cases z : n1 = 1
            · subst z
              rw [if_pos rfl] at HCVV
              obtain rfl : cvv = 0 := HCVV.out
              clear HCVV
              go_upto_region 59 with fail
              have STd := HSTw5.out.keep ((Keep.refl w5).drew)
              have FRd := HFRw5.out.trans (Fr.keep (P := pS gS gC) ((Keep.refl w5).drew))
              obtain ⟨s0d, -, -⟩ := STd.fs
              obtain ⟨-, hq9⟩ := HDS.out w5.drew FRd
              obtain ⟨-, q1d, -⟩ := sfC_cells hq9
              rw [HHC.out] at q1d
              obtain ⟨-, cCd, fCd⟩ := STd.cell HCC.out
              refine x59_c gS gC gQ S.cells.length cap C 0 ((n0 : Nat) : Int) ((n2 : Nat) : Int) ((0 : Nat) : Int) (A : Int) (sgn 0 A) (sgn n2 A) rfl rfl rfl rfl rfl rfl HSZ9.out HSP.out HCC.out s0d q1d ⟨_, by rw [Nat.zero_add]; exact cCd⟩ (by rw [Nat.zero_add]; exact fCd) ?_
              intro a9 d9 z9 o9
              rw [Nat.zero_add]
              have t09 : a9.tmps[0]? = some _ := o9 0 (by decide)
              have t19 : a9.tmps[1]? = some _ := o9 1 (by decide)
              have t29 : a9.tmps[2]? = some _ := o9 2 (by decide)
              have t39 : a9.tmps[3]? = some _ := o9 3 (by decide)
              have t79 : a9.tmps[7]? = some _ := o9 7 (by decide)
              have t299 : a9.tmps[29]? = some _ := o9 29 (by decide)
              have t309 : a9.tmps[30]? = some _ := o9 30 (by decide)
              have t329 : a9.tmps[32]? = some _ := o9 32 (by decide)
              have t349 : a9.tmps[34]? = some _ := o9 34 (by decide)
              have t369 : a9.tmps[36]? = some _ := o9 36 (by decide)
              have t379 : a9.tmps[37]? = some _ := o9 37 (by decide)
              have t389 : a9.tmps[38]? = some _ := o9 38 (by decide)
              have t399 : a9.tmps[39]? = some _ := o9 39 (by decide)
              have zz9 : a9.tmps.size = 523 := z9.trans rfl
              have dd9 : a9.defers = [] := d9.trans rfl
              clear d9 z9 o9
              have ST7 := STd.put HCC.out (decide (sgn n2 A ≤ sgn 0 A)).toNat
              have FR7 := FRd.trans (frC w5.drew gS gC C (.int .u64 (((decide (sgn n2 A ≤ sgn 0 A)).toNat : Nat) : Int)))
              clear STd FRd s0d q1d hq9 cCd fCd
              generalize w5.drew.setCell ⟨gC, C, none⟩ (.int .u64 (((decide (sgn n2 A ≤ sgn 0 A)).toNat : Nat) : Int)) = w7 at ST7 FR7 ⊢
              go_upto_region 60 with fail
              have STd := ST7.keep ((Keep.refl w7).drew)
              have FRd := FR7.trans (Fr.keep (P := pS gS gC) ((Keep.refl w7).drew))
              obtain ⟨s0d, -, -⟩ := STd.fs
              obtain ⟨-, hq9⟩ := HDS.out w7.drew FRd
              obtain ⟨-, q1d, -⟩ := sfC_cells hq9
              rw [HHC.out] at q1d
              obtain ⟨-, cCd, fCd⟩ := STd.cell (i := C + 1) (by rw [put_len]; exact HCC1.out)
              rw [put_len] at s0d
              refine x60_c gS gC gQ S.cells.length cap C (C + 1) 0 0 ((0 : Nat) : Int) 0 0 0 zz9 t29 t79 t369 HMW1.out HCC1.out s0d q1d ⟨_, by rw [Nat.zero_add]; exact cCd⟩ (by rw [Nat.zero_add]; exact fCd) ?_
              intro a10 d10 z10 o10
              rw [Nat.zero_add]
              have t010 := (o10 0 (by decide)).trans t09
              have t110 := (o10 1 (by decide)).trans t19
              have t210 := (o10 2 (by decide)).trans t29
              have t310 := (o10 3 (by decide)).trans t39
              have t710 := (o10 7 (by decide)).trans t79
              have t2910 := (o10 29 (by decide)).trans t299
              have t3010 := (o10 30 (by decide)).trans t309
              have t3210 := (o10 32 (by decide)).trans t329
              have t3410 := (o10 34 (by decide)).trans t349
              have t3610 := (o10 36 (by decide)).trans t369
              have t3710 := (o10 37 (by decide)).trans t379
              have t3810 := (o10 38 (by decide)).trans t389
              have t3910 := (o10 39 (by decide)).trans t399
              have zz10 := z10.trans zz9
              have dd10 := d10.trans dd9
              have ST8 := STd.put (i := C + 1) (by rw [put_len]; exact HCC1.out) 0
              have FR8 := FRd.trans (frC w7.drew gS gC (C + 1) (.int .u64 ((0 : Nat) : Int)))
              clear STd FRd s0d q1d hq9 cCd fCd ST7 FR7 d10 z10 o10
              generalize w7.drew.setCell ⟨gC, C + 1, none⟩ (.int .u64 ((0 : Nat) : Int)) = w8 at ST8 FR8 ⊢
              go_upto_region 61 with fail
              have STd := ST8.keep ((Keep.refl w8).drew)
              have FRd := FR8.trans (Fr.keep (P := pS gS gC) ((Keep.refl w8).drew))
              obtain ⟨s0d, -, -⟩ := STd.fs
              obtain ⟨-, hq9⟩ := HDS.out w8.drew FRd
              obtain ⟨-, q1d, -⟩ := sfC_cells hq9
              rw [HHC.out] at q1d
              obtain ⟨-, cCd, fCd⟩ := STd.cell (i := C + 2) (by rw [put_len, put_len]; exact HCC2.out)
              rw [put_len, put_len] at s0d
              refine x61_c gS gC gQ S.cells.length cap C (C + 2) ((n0 : Nat) : Int) 0 0 0 0 0 zz10 t210 t710 t2910 HMW2.out HCC2.out s0d q1d ⟨_, by rw [Nat.zero_add]; exact cCd⟩ (by rw [Nat.zero_add]; exact fCd) ?_
              intro a11 d11 z11 o11
              rw [Nat.zero_add]
              have t011 := (o11 0 (by decide)).trans t010
              have t111 := (o11 1 (by decide)).trans t110
              have t211 := (o11 2 (by decide)).trans t210
              have t311 := (o11 3 (by decide)).trans t310
              have t711 := (o11 7 (by decide)).trans t710
              have t2911 := (o11 29 (by decide)).trans t2910
              have t3011 := (o11 30 (by decide)).trans t3010
              have t3211 := (o11 32 (by decide)).trans t3210
              have t3411 := (o11 34 (by decide)).trans t3410
              have t3611 := (o11 36 (by decide)).trans t3610
              have t3711 := (o11 37 (by decide)).trans t3710
              have t3811 := (o11 38 (by decide)).trans t3810
              have t3911 := (o11 39 (by decide)).trans t3910
              have zz11 := z11.trans zz10
              have dd11 := d11.trans dd10
              have ST9 := STd.put (i := C + 2) (by rw [put_len, put_len]; exact HCC2.out) n0
              have FR9 := FRd.trans (frC w8.drew gS gC (C + 2) (.int .u64 ((n0 : Nat) : Int)))
              clear STd FRd s0d q1d hq9 cCd fCd ST8 FR8 d11 z11 o11
              generalize w8.drew.setCell ⟨gC, C + 2, none⟩ (.int .u64 ((n0 : Nat) : Int)) = w9 at ST9 FR9 ⊢
              go_upto_region 62 with fail
              obtain ⟨-, s1d, sfd⟩ := ST9.fs
              refine x62_c gS S.fault f0 f1 f2 zz11 t211 t3011 t3211 t3411 s1d sfd ?_
              intro a12 d12 z12 o12
              have t012 := (o12 0 (by decide)).trans t011
              have t112 := (o12 1 (by decide)).trans t111
              have t212 := (o12 2 (by decide)).trans t211
              have t312 := (o12 3 (by decide)).trans t311
              have t712 := (o12 7 (by decide)).trans t711
              have t2912 := (o12 29 (by decide)).trans t2911
              have t3012 := (o12 30 (by decide)).trans t3011
              have t3212 := (o12 32 (by decide)).trans t3211
              have t3412 := (o12 34 (by decide)).trans t3411
              have t3612 := (o12 36 (by decide)).trans t3611
              have t3712 := (o12 37 (by decide)).trans t3711
              have t3812 := (o12 38 (by decide)).trans t3811
              have t3912 := (o12 39 (by decide)).trans t3911
              have zz12 := z12.trans zz11
              have dd12 := d12.trans dd11
              have STz := ST9.flt (S.fault || f0 || f1 || f2)
              have FRz := FR9.trans (frS w9 gS gC (S.fault || f0 || f1 || f2))
              clear ST9 FR9 s1d sfd d12 z12 o12
              generalize w9.setCell ⟨gS, 1, none⟩ (.bool (S.fault || f0 || f1 || f2)) = wz at STz FRz ⊢
              go_upto_region 63 with fail
              refine x63_c k zz12 t3912 (by omega) ?_
              intro a13 d13 z13 o13 t3913
              go_wp2_with fail
              refine Handed.intro (t.toL.length - (k + 1)) (by have := HK.out; omega) ?_
              go_step
              refine InvF.of (z13.trans zz12) (d13.trans dd12) ⟨k + 1, by have := HK.out; omega, getD_of t3913, HFV.out.trans FRz, ?_, getD_of ((o13 0 (by decide)).trans t012), getD_of ((o13 1 (by decide)).trans t112), getD_of ((o13 2 (by decide)).trans t212), getD_of ((o13 3 (by decide)).trans t312), getD_of ((o13 37 (by decide)).trans t3712), getD_of ((o13 38 (by decide)).trans t3812)⟩
              rw [HF.out, EQ.out]
              rw [show (S.fault || (f0 || f1 || f2)) = (S.fault || f0 || f1 || f2) by cases S.fault <;> cases f0 <;> cases f1 <;> rfl]
              exact STz

            · rw [if_neg z] at HCVV
              have z2 : ((n1 : Int) == 1) = false := by simp; omega
              by_cases zc : n0 = 1
              · by_cases zm : S.at (C + 2) = 0
                · by_cases ze : S.at (C + 1) = mx
                  · rw [if_neg (fun h => h.2.2 ze)] at HCVV
                    obtain rfl : cvv = S.at (C + 1) := HCVV.out
                    clear HCVV
                    have zc1 : ((n0 : Int) == 1) = true := by simp; omega
                    rw [zm] at cC2
                    have ze1 : (((S.at (C + 1) : Nat) : Int) != ((mx : Nat) : Int)) = false := by simp [ze]
                    go_wp2_with fail
                    go_region_held3 (fun w' => w'.cell? ⟨gS, 0, none⟩ = some (.slice (some ⟨gC, 0, none⟩) S.cells.length cap) ∧ w'.cell? ⟨gQ, 1, none⟩ = some (.int .i64 (C : Int)) ∧ w'.cell? ⟨gC, C + 2, none⟩ = some (.int .u64 0)) (first | exact ⟨s0, q1, cC2⟩ | go_keep) (first | (go_at_call 41; refine (HMX.out _).mono ?_; rintro e y ⟨rfl, hy⟩; subst hy))
                    rename_i hHd
                    clear hHd
                    obtain ⟨w6, hw9⟩ : ∃ w6, w6 = w5.drew := ⟨_, rfl⟩
                    rw [← hw9]
                    have STw6 : StM w6 gS gC (some ⟨gC, 0, none⟩) cap sp S := by rw [hw9]; exact HSTw5.out.keep ((Keep.refl _).drew)
                    have FRw6 : Fr (pS gS gC) V w6 := by rw [hw9]; exact HFRw5.out.trans (Fr.keep ((Keep.refl _).drew))
                    have HSTw6 := Hid.mk STw6
                    have HFRw6 := Hid.mk FRw6
                    clear hw9 s0 s1 sf q0 q1 q2 q3 q4 q5 q6 q7 d0 d1 d2 d3 d4 d5 d6 d7 d8 cC fC cC1 fC1 cC2 fC2
                    clear STw6 FRw6
                    have ST9 := HSTw6.out
                    have FR9 := HFRw6.out
                    obtain ⟨hd9, hq9⟩ := HDS.out w6 FR9
                    obtain ⟨d0, d1, d2, d3, d4, d5, d6, d7, d8⟩ := prC_cells hd9
                    obtain ⟨q0, q1, q2, q3, q4, q5, q6, q7⟩ := sfC_cells hq9
                    obtain ⟨s0, s1, sf⟩ := (ST9).fs
                    clear hd9 hq9
                    rw [HHC.out] at q1
                    obtain ⟨-, cC, fC⟩ := ST9.cell HCC.out
                    obtain ⟨-, cC1, fC1⟩ := ST9.cell HCC1.out
                    obtain ⟨-, cC2, fC2⟩ := ST9.cell HCC2.out
                    clear ST9 FR9
                    rw [ze] at EQ HSE
                    rw [zc] at EQ
                    go_upto_region 59 with fail
                    have STd := HSTw6.out.keep ((Keep.refl w6).drew)
                    have FRd := HFRw6.out.trans (Fr.keep (P := pS gS gC) ((Keep.refl w6).drew))
                    obtain ⟨s0d, -, -⟩ := STd.fs
                    obtain ⟨-, hq9⟩ := HDS.out w6.drew FRd
                    obtain ⟨-, q1d, -⟩ := sfC_cells hq9
                    rw [HHC.out] at q1d
                    obtain ⟨-, cCd, fCd⟩ := STd.cell HCC.out
                    refine x59_c gS gC gQ S.cells.length cap C 0 ((1 : Nat) : Int) ((n2 : Nat) : Int) ((mx : Nat) : Int) (A : Int) (sgn mx A) (sgn n2 A) rfl rfl rfl rfl rfl rfl HSE.out HSP.out HCC.out s0d q1d ⟨_, by rw [Nat.zero_add]; exact cCd⟩ (by rw [Nat.zero_add]; exact fCd) ?_
                    intro a9 d9 z9 o9
                    rw [Nat.zero_add]
                    have t09 : a9.tmps[0]? = some _ := o9 0 (by decide)
                    have t19 : a9.tmps[1]? = some _ := o9 1 (by decide)
                    have t29 : a9.tmps[2]? = some _ := o9 2 (by decide)
                    have t39 : a9.tmps[3]? = some _ := o9 3 (by decide)
                    have t79 : a9.tmps[7]? = some _ := o9 7 (by decide)
                    have t299 : a9.tmps[29]? = some _ := o9 29 (by decide)
                    have t309 : a9.tmps[30]? = some _ := o9 30 (by decide)
                    have t329 : a9.tmps[32]? = some _ := o9 32 (by decide)
                    have t349 : a9.tmps[34]? = some _ := o9 34 (by decide)
                    have t369 : a9.tmps[36]? = some _ := o9 36 (by decide)
                    have t379 : a9.tmps[37]? = some _ := o9 37 (by decide)
                    have t389 : a9.tmps[38]? = some _ := o9 38 (by decide)
                    have t399 : a9.tmps[39]? = some _ := o9 39 (by decide)
                    have zz9 : a9.tmps.size = 523 := z9.trans rfl
                    have dd9 : a9.defers = [] := d9.trans rfl
                    clear d9 z9 o9
                    have ST7 := STd.put HCC.out (decide (sgn n2 A ≤ sgn mx A)).toNat
                    have FR7 := FRd.trans (frC w6.drew gS gC C (.int .u64 (((decide (sgn n2 A ≤ sgn mx A)).toNat : Nat) : Int)))
                    clear STd FRd s0d q1d hq9 cCd fCd
                    generalize w6.drew.setCell ⟨gC, C, none⟩ (.int .u64 (((decide (sgn n2 A ≤ sgn mx A)).toNat : Nat) : Int)) = w7 at ST7 FR7 ⊢
                    go_upto_region 60 with fail
                    have STd := ST7.keep ((Keep.refl w7).drew)
                    have FRd := FR7.trans (Fr.keep (P := pS gS gC) ((Keep.refl w7).drew))
                    obtain ⟨s0d, -, -⟩ := STd.fs
                    obtain ⟨-, hq9⟩ := HDS.out w7.drew FRd
                    obtain ⟨-, q1d, -⟩ := sfC_cells hq9
                    rw [HHC.out] at q1d
                    obtain ⟨-, cCd, fCd⟩ := STd.cell (i := C + 1) (by rw [put_len]; exact HCC1.out)
                    rw [put_len] at s0d
                    refine x60_c gS gC gQ S.cells.length cap C (C + 1) 0 0 ((mx : Nat) : Int) 0 0 0 zz9 t29 t79 t369 HMW1.out HCC1.out s0d q1d ⟨_, by rw [Nat.zero_add]; exact cCd⟩ (by rw [Nat.zero_add]; exact fCd) ?_
                    intro a10 d10 z10 o10
                    rw [Nat.zero_add]
                    have t010 := (o10 0 (by decide)).trans t09
                    have t110 := (o10 1 (by decide)).trans t19
                    have t210 := (o10 2 (by decide)).trans t29
                    have t310 := (o10 3 (by decide)).trans t39
                    have t710 := (o10 7 (by decide)).trans t79
                    have t2910 := (o10 29 (by decide)).trans t299
                    have t3010 := (o10 30 (by decide)).trans t309
                    have t3210 := (o10 32 (by decide)).trans t329
                    have t3410 := (o10 34 (by decide)).trans t349
                    have t3610 := (o10 36 (by decide)).trans t369
                    have t3710 := (o10 37 (by decide)).trans t379
                    have t3810 := (o10 38 (by decide)).trans t389
                    have t3910 := (o10 39 (by decide)).trans t399
                    have zz10 := z10.trans zz9
                    have dd10 := d10.trans dd9
                    have ST8 := STd.put (i := C + 1) (by rw [put_len]; exact HCC1.out) mx
                    have FR8 := FRd.trans (frC w7.drew gS gC (C + 1) (.int .u64 ((mx : Nat) : Int)))
                    clear STd FRd s0d q1d hq9 cCd fCd ST7 FR7 d10 z10 o10
                    generalize w7.drew.setCell ⟨gC, C + 1, none⟩ (.int .u64 ((mx : Nat) : Int)) = w8 at ST8 FR8 ⊢
                    go_upto_region 61 with fail
                    have STd := ST8.keep ((Keep.refl w8).drew)
                    have FRd := FR8.trans (Fr.keep (P := pS gS gC) ((Keep.refl w8).drew))
                    obtain ⟨s0d, -, -⟩ := STd.fs
                    obtain ⟨-, hq9⟩ := HDS.out w8.drew FRd
                    obtain ⟨-, q1d, -⟩ := sfC_cells hq9
                    rw [HHC.out] at q1d
                    obtain ⟨-, cCd, fCd⟩ := STd.cell (i := C + 2) (by rw [put_len, put_len]; exact HCC2.out)
                    rw [put_len, put_len] at s0d
                    refine x61_c gS gC gQ S.cells.length cap C (C + 2) ((1 : Nat) : Int) 0 0 0 0 0 zz10 t210 t710 t2910 HMW2.out HCC2.out s0d q1d ⟨_, by rw [Nat.zero_add]; exact cCd⟩ (by rw [Nat.zero_add]; exact fCd) ?_
                    intro a11 d11 z11 o11
                    rw [Nat.zero_add]
                    have t011 := (o11 0 (by decide)).trans t010
                    have t111 := (o11 1 (by decide)).trans t110
                    have t211 := (o11 2 (by decide)).trans t210
                    have t311 := (o11 3 (by decide)).trans t310
                    have t711 := (o11 7 (by decide)).trans t710
                    have t2911 := (o11 29 (by decide)).trans t2910
                    have t3011 := (o11 30 (by decide)).trans t3010
                    have t3211 := (o11 32 (by decide)).trans t3210
                    have t3411 := (o11 34 (by decide)).trans t3410
                    have t3611 := (o11 36 (by decide)).trans t3610
                    have t3711 := (o11 37 (by decide)).trans t3710
                    have t3811 := (o11 38 (by decide)).trans t3810
                    have t3911 := (o11 39 (by decide)).trans t3910
                    have zz11 := z11.trans zz10
                    have dd11 := d11.trans dd10
                    have ST9 := STd.put (i := C + 2) (by rw [put_len, put_len]; exact HCC2.out) 1
                    have FR9 := FRd.trans (frC w8.drew gS gC (C + 2) (.int .u64 ((1 : Nat) : Int)))
                    clear STd FRd s0d q1d hq9 cCd fCd ST8 FR8 d11 z11 o11
                    generalize w8.drew.setCell ⟨gC, C + 2, none⟩ (.int .u64 ((1 : Nat) : Int)) = w9 at ST9 FR9 ⊢
                    go_upto_region 62 with fail
                    obtain ⟨-, s1d, sfd⟩ := ST9.fs
                    refine x62_c gS S.fault f0 f1 f2 zz11 t211 t3011 t3211 t3411 s1d sfd ?_
                    intro a12 d12 z12 o12
                    have t012 := (o12 0 (by decide)).trans t011
                    have t112 := (o12 1 (by decide)).trans t111
                    have t212 := (o12 2 (by decide)).trans t211
                    have t312 := (o12 3 (by decide)).trans t311
                    have t712 := (o12 7 (by decide)).trans t711
                    have t2912 := (o12 29 (by decide)).trans t2911
                    have t3012 := (o12 30 (by decide)).trans t3011
                    have t3212 := (o12 32 (by decide)).trans t3211
                    have t3412 := (o12 34 (by decide)).trans t3411
                    have t3612 := (o12 36 (by decide)).trans t3611
                    have t3712 := (o12 37 (by decide)).trans t3711
                    have t3812 := (o12 38 (by decide)).trans t3811
                    have t3912 := (o12 39 (by decide)).trans t3911
                    have zz12 := z12.trans zz11
                    have dd12 := d12.trans dd11
                    have STz := ST9.flt (S.fault || f0 || f1 || f2)
                    have FRz := FR9.trans (frS w9 gS gC (S.fault || f0 || f1 || f2))
                    clear ST9 FR9 s1d sfd d12 z12 o12
                    generalize w9.setCell ⟨gS, 1, none⟩ (.bool (S.fault || f0 || f1 || f2)) = wz at STz FRz ⊢
                    go_upto_region 63 with fail
                    refine x63_c k zz12 t3912 (by omega) ?_
                    intro a13 d13 z13 o13 t3913
                    go_wp2_with fail
                    refine Handed.intro (t.toL.length - (k + 1)) (by have := HK.out; omega) ?_
                    go_step
                    refine InvF.of (z13.trans zz12) (d13.trans dd12) ⟨k + 1, by have := HK.out; omega, getD_of t3913, HFV.out.trans FRz, ?_, getD_of ((o13 0 (by decide)).trans t012), getD_of ((o13 1 (by decide)).trans t112), getD_of ((o13 2 (by decide)).trans t212), getD_of ((o13 3 (by decide)).trans t312), getD_of ((o13 37 (by decide)).trans t3712), getD_of ((o13 38 (by decide)).trans t3812)⟩
                    rw [HF.out, EQ.out]
                    rw [show (S.fault || (f0 || f1 || f2)) = (S.fault || f0 || f1 || f2) by cases S.fault <;> cases f0 <;> cases f1 <;> rfl]
                    exact STz

                  · rw [if_pos ⟨zc, zm, ze⟩] at HCVV
                    obtain rfl : cvv = t0 := HCVV.out
                    clear HCVV
                    have zc1 : ((n0 : Int) == 1) = true := by simp; omega
                    rw [zm] at cC2
                    have ze1 : (((S.at (C + 1) : Nat) : Int) != ((mx : Nat) : Int)) = true := by simp; omega
                    go_wp2_with fail
                    go_region_held3 (fun w' => w'.cell? ⟨gS, 0, none⟩ = some (.slice (some ⟨gC, 0, none⟩) S.cells.length cap) ∧ w'.cell? ⟨gQ, 1, none⟩ = some (.int .i64 (C : Int)) ∧ w'.cell? ⟨gC, C + 2, none⟩ = some (.int .u64 0)) (first | exact ⟨s0, q1, cC2⟩ | go_keep) (first | (go_at_call 41; refine (HMX.out _).mono ?_; rintro e y ⟨rfl, hy⟩; subst hy))
                    rename_i hHd
                    clear hHd
                    obtain ⟨w6, hw9⟩ : ∃ w6, w6 = w5.drew := ⟨_, rfl⟩
                    rw [← hw9]
                    have STw6 : StM w6 gS gC (some ⟨gC, 0, none⟩) cap sp S := by rw [hw9]; exact HSTw5.out.keep ((Keep.refl _).drew)
                    have FRw6 : Fr (pS gS gC) V w6 := by rw [hw9]; exact HFRw5.out.trans (Fr.keep ((Keep.refl _).drew))
                    have HSTw6 := Hid.mk STw6
                    have HFRw6 := Hid.mk FRw6
                    clear hw9 s0 s1 sf q0 q1 q2 q3 q4 q5 q6 q7 d0 d1 d2 d3 d4 d5 d6 d7 d8 cC fC cC1 fC1 cC2 fC2
                    clear STw6 FRw6
                    have ST9 := HSTw6.out
                    have FR9 := HFRw6.out
                    obtain ⟨hd9, hq9⟩ := HDS.out w6 FR9
                    obtain ⟨d0, d1, d2, d3, d4, d5, d6, d7, d8⟩ := prC_cells hd9
                    obtain ⟨q0, q1, q2, q3, q4, q5, q6, q7⟩ := sfC_cells hq9
                    obtain ⟨s0, s1, sf⟩ := (ST9).fs
                    clear hd9 hq9
                    rw [HHC.out] at q1
                    obtain ⟨-, cC, fC⟩ := ST9.cell HCC.out
                    obtain ⟨-, cC1, fC1⟩ := ST9.cell HCC1.out
                    obtain ⟨-, cC2, fC2⟩ := ST9.cell HCC2.out
                    clear ST9 FR9
                    go_wp2_with fail
                    refine (HLW.out _).mono ?_
                    rintro e y ⟨rfl, hy⟩
                    have hy2 := hy.symm
                    clear hy
                    subst hy2
                    rw [zc] at EQ
                    go_upto_region 59 with fail
                    have STd := HSTw6.out.keep ((Keep.refl w6).drew)
                    have FRd := HFRw6.out.trans (Fr.keep (P := pS gS gC) ((Keep.refl w6).drew))
                    obtain ⟨s0d, -, -⟩ := STd.fs
                    obtain ⟨-, hq9⟩ := HDS.out w6.drew FRd
                    obtain ⟨-, q1d, -⟩ := sfC_cells hq9
                    rw [HHC.out] at q1d
                    obtain ⟨-, cCd, fCd⟩ := STd.cell HCC.out
                    refine x59_c gS gC gQ S.cells.length cap C 0 ((1 : Nat) : Int) ((n2 : Nat) : Int) ((cvv : Nat) : Int) (A : Int) (sgn cvv A) (sgn n2 A) rfl rfl rfl rfl rfl rfl HS0.out HSP.out HCC.out s0d q1d ⟨_, by rw [Nat.zero_add]; exact cCd⟩ (by rw [Nat.zero_add]; exact fCd) ?_
                    intro a9 d9 z9 o9
                    rw [Nat.zero_add]
                    have t09 : a9.tmps[0]? = some _ := o9 0 (by decide)
                    have t19 : a9.tmps[1]? = some _ := o9 1 (by decide)
                    have t29 : a9.tmps[2]? = some _ := o9 2 (by decide)
                    have t39 : a9.tmps[3]? = some _ := o9 3 (by decide)
                    have t79 : a9.tmps[7]? = some _ := o9 7 (by decide)
                    have t299 : a9.tmps[29]? = some _ := o9 29 (by decide)
                    have t309 : a9.tmps[30]? = some _ := o9 30 (by decide)
                    have t329 : a9.tmps[32]? = some _ := o9 32 (by decide)
                    have t349 : a9.tmps[34]? = some _ := o9 34 (by decide)
                    have t369 : a9.tmps[36]? = some _ := o9 36 (by decide)
                    have t379 : a9.tmps[37]? = some _ := o9 37 (by decide)
                    have t389 : a9.tmps[38]? = some _ := o9 38 (by decide)
                    have t399 : a9.tmps[39]? = some _ := o9 39 (by decide)
                    have zz9 : a9.tmps.size = 523 := z9.trans rfl
                    have dd9 : a9.defers = [] := d9.trans rfl
                    clear d9 z9 o9
                    have ST7 := STd.put HCC.out (decide (sgn n2 A ≤ sgn cvv A)).toNat
                    have FR7 := FRd.trans (frC w6.drew gS gC C (.int .u64 (((decide (sgn n2 A ≤ sgn cvv A)).toNat : Nat) : Int)))
                    clear STd FRd s0d q1d hq9 cCd fCd
                    generalize w6.drew.setCell ⟨gC, C, none⟩ (.int .u64 (((decide (sgn n2 A ≤ sgn cvv A)).toNat : Nat) : Int)) = w7 at ST7 FR7 ⊢
                    go_upto_region 60 with fail
                    have STd := ST7.keep ((Keep.refl w7).drew)
                    have FRd := FR7.trans (Fr.keep (P := pS gS gC) ((Keep.refl w7).drew))
                    obtain ⟨s0d, -, -⟩ := STd.fs
                    obtain ⟨-, hq9⟩ := HDS.out w7.drew FRd
                    obtain ⟨-, q1d, -⟩ := sfC_cells hq9
                    rw [HHC.out] at q1d
                    obtain ⟨-, cCd, fCd⟩ := STd.cell (i := C + 1) (by rw [put_len]; exact HCC1.out)
                    rw [put_len] at s0d
                    refine x60_c gS gC gQ S.cells.length cap C (C + 1) 0 0 ((cvv : Nat) : Int) 0 0 0 zz9 t29 t79 t369 HMW1.out HCC1.out s0d q1d ⟨_, by rw [Nat.zero_add]; exact cCd⟩ (by rw [Nat.zero_add]; exact fCd) ?_
                    intro a10 d10 z10 o10
                    rw [Nat.zero_add]
                    have t010 := (o10 0 (by decide)).trans t09
                    have t110 := (o10 1 (by decide)).trans t19
                    have t210 := (o10 2 (by decide)).trans t29
                    have t310 := (o10 3 (by decide)).trans t39
                    have t710 := (o10 7 (by decide)).trans t79
                    have t2910 := (o10 29 (by decide)).trans t299
                    have t3010 := (o10 30 (by decide)).trans t309
                    have t3210 := (o10 32 (by decide)).trans t329
                    have t3410 := (o10 34 (by decide)).trans t349
                    have t3610 := (o10 36 (by decide)).trans t369
                    have t3710 := (o10 37 (by decide)).trans t379
                    have t3810 := (o10 38 (by decide)).trans t389
                    have t3910 := (o10 39 (by decide)).trans t399
                    have zz10 := z10.trans zz9
                    have dd10 := d10.trans dd9
                    have ST8 := STd.put (i := C + 1) (by rw [put_len]; exact HCC1.out) cvv
                    have FR8 := FRd.trans (frC w7.drew gS gC (C + 1) (.int .u64 ((cvv : Nat) : Int)))
                    clear STd FRd s0d q1d hq9 cCd fCd ST7 FR7 d10 z10 o10
                    generalize w7.drew.setCell ⟨gC, C + 1, none⟩ (.int .u64 ((cvv : Nat) : Int)) = w8 at ST8 FR8 ⊢
                    go_upto_region 61 with fail
                    have STd := ST8.keep ((Keep.refl w8).drew)
                    have FRd := FR8.trans (Fr.keep (P := pS gS gC) ((Keep.refl w8).drew))
                    obtain ⟨s0d, -, -⟩ := STd.fs
                    obtain ⟨-, hq9⟩ := HDS.out w8.drew FRd
                    obtain ⟨-, q1d, -⟩ := sfC_cells hq9
                    rw [HHC.out] at q1d
                    obtain ⟨-, cCd, fCd⟩ := STd.cell (i := C + 2) (by rw [put_len, put_len]; exact HCC2.out)
                    rw [put_len, put_len] at s0d
                    refine x61_c gS gC gQ S.cells.length cap C (C + 2) ((1 : Nat) : Int) 0 0 0 0 0 zz10 t210 t710 t2910 HMW2.out HCC2.out s0d q1d ⟨_, by rw [Nat.zero_add]; exact cCd⟩ (by rw [Nat.zero_add]; exact fCd) ?_
                    intro a11 d11 z11 o11
                    rw [Nat.zero_add]
                    have t011 := (o11 0 (by decide)).trans t010
                    have t111 := (o11 1 (by decide)).trans t110
                    have t211 := (o11 2 (by decide)).trans t210
                    have t311 := (o11 3 (by decide)).trans t310
                    have t711 := (o11 7 (by decide)).trans t710
                    have t2911 := (o11 29 (by decide)).trans t2910
                    have t3011 := (o11 30 (by decide)).trans t3010
                    have t3211 := (o11 32 (by decide)).trans t3210
                    have t3411 := (o11 34 (by decide)).trans t3410
                    have t3611 := (o11 36 (by decide)).trans t3610
                    have t3711 := (o11 37 (by decide)).trans t3710
                    have t3811 := (o11 38 (by decide)).trans t3810
                    have t3911 := (o11 39 (by decide)).trans t3910
                    have zz11 := z11.trans zz10
                    have dd11 := d11.trans dd10
                    have ST9 := STd.put (i := C + 2) (by rw [put_len, put_len]; exact HCC2.out) 1
                    have FR9 := FRd.trans (frC w8.drew gS gC (C + 2) (.int .u64 ((1 : Nat) : Int)))
                    clear STd FRd s0d q1d hq9 cCd fCd ST8 FR8 d11 z11 o11
                    generalize w8.drew.setCell ⟨gC, C + 2, none⟩ (.int .u64 ((1 : Nat) : Int)) = w9 at ST9 FR9 ⊢
                    go_upto_region 62 with fail
                    obtain ⟨-, s1d, sfd⟩ := ST9.fs
                    refine x62_c gS S.fault f0 f1 f2 zz11 t211 t3011 t3211 t3411 s1d sfd ?_
                    intro a12 d12 z12 o12
                    have t012 := (o12 0 (by decide)).trans t011
                    have t112 := (o12 1 (by decide)).trans t111
                    have t212 := (o12 2 (by decide)).trans t211
                    have t312 := (o12 3 (by decide)).trans t311
                    have t712 := (o12 7 (by decide)).trans t711
                    have t2912 := (o12 29 (by decide)).trans t2911
                    have t3012 := (o12 30 (by decide)).trans t3011
                    have t3212 := (o12 32 (by decide)).trans t3211
                    have t3412 := (o12 34 (by decide)).trans t3411
                    have t3612 := (o12 36 (by decide)).trans t3611
                    have t3712 := (o12 37 (by decide)).trans t3711
                    have t3812 := (o12 38 (by decide)).trans t3811
                    have t3912 := (o12 39 (by decide)).trans t3911
                    have zz12 := z12.trans zz11
                    have dd12 := d12.trans dd11
                    have STz := ST9.flt (S.fault || f0 || f1 || f2)
                    have FRz := FR9.trans (frS w9 gS gC (S.fault || f0 || f1 || f2))
                    clear ST9 FR9 s1d sfd d12 z12 o12
                    generalize w9.setCell ⟨gS, 1, none⟩ (.bool (S.fault || f0 || f1 || f2)) = wz at STz FRz ⊢
                    go_upto_region 63 with fail
                    refine x63_c k zz12 t3912 (by omega) ?_
                    intro a13 d13 z13 o13 t3913
                    go_wp2_with fail
                    refine Handed.intro (t.toL.length - (k + 1)) (by have := HK.out; omega) ?_
                    go_step
                    refine InvF.of (z13.trans zz12) (d13.trans dd12) ⟨k + 1, by have := HK.out; omega, getD_of t3913, HFV.out.trans FRz, ?_, getD_of ((o13 0 (by decide)).trans t012), getD_of ((o13 1 (by decide)).trans t112), getD_of ((o13 2 (by decide)).trans t212), getD_of ((o13 3 (by decide)).trans t312), getD_of ((o13 37 (by decide)).trans t3712), getD_of ((o13 38 (by decide)).trans t3812)⟩
                    rw [HF.out, EQ.out]
                    rw [show (S.fault || (f0 || f1 || f2)) = (S.fault || f0 || f1 || f2) by cases S.fault <;> cases f0 <;> cases f1 <;> rfl]
                    exact STz

                · rw [if_neg (fun h => zm h.2.1)] at HCVV
                  obtain rfl : cvv = S.at (C + 1) := HCVV.out
                  clear HCVV
                  have zc1 : ((n0 : Int) == 1) = true := by simp; omega
                  have zm1 : (((S.at (C + 2) : Nat) : Int) == 0) = false := by simp; omega
                  go_upto_region 57 with fail
                  refine r57b_c gS gC gQ S.cells.length cap C (C + 2) (n0 : Int) ((S.at (C + 2) : Nat) : Int) rfl rfl rfl rfl zc1 zm1 HMW2.out HCC2.out s0 q1 (by rw [Nat.zero_add]; exact cC2) ?_
                  simp only [lay, r57bL, List.foldl_cons, List.foldl_nil, Nat.zero_add]
                  simp only [put_litx, List.set_cons_succ, List.set_cons_zero]
                  obtain ⟨w6, hw9⟩ : ∃ w6, w6 = w5.drew := ⟨_, rfl⟩
                  rw [← hw9]
                  have STw6 : StM w6 gS gC (some ⟨gC, 0, none⟩) cap sp S := by rw [hw9]; exact HSTw5.out.keep ((Keep.refl _).drew)
                  have FRw6 : Fr (pS gS gC) V w6 := by rw [hw9]; exact HFRw5.out.trans (Fr.keep ((Keep.refl _).drew))
                  have HSTw6 := Hid.mk STw6
                  have HFRw6 := Hid.mk FRw6
                  clear hw9 s0 s1 sf q0 q1 q2 q3 q4 q5 q6 q7 d0 d1 d2 d3 d4 d5 d6 d7 d8 cC fC cC1 fC1 cC2 fC2
                  clear STw6 FRw6
                  have ST9 := HSTw6.out
                  have FR9 := HFRw6.out
                  obtain ⟨hd9, hq9⟩ := HDS.out w6 FR9
                  obtain ⟨d0, d1, d2, d3, d4, d5, d6, d7, d8⟩ := prC_cells hd9
                  obtain ⟨q0, q1, q2, q3, q4, q5, q6, q7⟩ := sfC_cells hq9
                  obtain ⟨s0, s1, sf⟩ := (ST9).fs
                  clear hd9 hq9
                  rw [HHC.out] at q1
                  obtain ⟨-, cC, fC⟩ := ST9.cell HCC.out
                  obtain ⟨-, cC1, fC1⟩ := ST9.cell HCC1.out
                  obtain ⟨-, cC2, fC2⟩ := ST9.cell HCC2.out
                  clear ST9 FR9
                  generalize S.at (C + 1) = cvv at *
                  go_upto_region 59 with fail
                  have STd := HSTw6.out.keep ((Keep.refl w6).drew)
                  have FRd := HFRw6.out.trans (Fr.keep (P := pS gS gC) ((Keep.refl w6).drew))
                  obtain ⟨s0d, -, -⟩ := STd.fs
                  obtain ⟨-, hq9⟩ := HDS.out w6.drew FRd
                  obtain ⟨-, q1d, -⟩ := sfC_cells hq9
                  rw [HHC.out] at q1d
                  obtain ⟨-, cCd, fCd⟩ := STd.cell HCC.out
                  refine x59_c gS gC gQ S.cells.length cap C 0 ((n0 : Nat) : Int) ((n2 : Nat) : Int) ((cvv : Nat) : Int) (A : Int) (sgn cvv A) (sgn n2 A) rfl rfl rfl rfl rfl rfl HSE.out HSP.out HCC.out s0d q1d ⟨_, by rw [Nat.zero_add]; exact cCd⟩ (by rw [Nat.zero_add]; exact fCd) ?_
                  intro a9 d9 z9 o9
                  rw [Nat.zero_add]
                  have t09 : a9.tmps[0]? = some _ := o9 0 (by decide)
                  have t19 : a9.tmps[1]? = some _ := o9 1 (by decide)
                  have t29 : a9.tmps[2]? = some _ := o9 2 (by decide)
                  have t39 : a9.tmps[3]? = some _ := o9 3 (by decide)
                  have t79 : a9.tmps[7]? = some _ := o9 7 (by decide)
                  have t299 : a9.tmps[29]? = some _ := o9 29 (by decide)
                  have t309 : a9.tmps[30]? = some _ := o9 30 (by decide)
                  have t329 : a9.tmps[32]? = some _ := o9 32 (by decide)
                  have t349 : a9.tmps[34]? = some _ := o9 34 (by decide)
                  have t369 : a9.tmps[36]? = some _ := o9 36 (by decide)
                  have t379 : a9.tmps[37]? = some _ := o9 37 (by decide)
                  have t389 : a9.tmps[38]? = some _ := o9 38 (by decide)
                  have t399 : a9.tmps[39]? = some _ := o9 39 (by decide)
                  have zz9 : a9.tmps.size = 523 := z9.trans rfl
                  have dd9 : a9.defers = [] := d9.trans rfl
                  clear d9 z9 o9
                  have ST7 := STd.put HCC.out (decide (sgn n2 A ≤ sgn cvv A)).toNat
                  have FR7 := FRd.trans (frC w6.drew gS gC C (.int .u64 (((decide (sgn n2 A ≤ sgn cvv A)).toNat : Nat) : Int)))
                  clear STd FRd s0d q1d hq9 cCd fCd
                  generalize w6.drew.setCell ⟨gC, C, none⟩ (.int .u64 (((decide (sgn n2 A ≤ sgn cvv A)).toNat : Nat) : Int)) = w7 at ST7 FR7 ⊢
                  go_upto_region 60 with fail
                  have STd := ST7.keep ((Keep.refl w7).drew)
                  have FRd := FR7.trans (Fr.keep (P := pS gS gC) ((Keep.refl w7).drew))
                  obtain ⟨s0d, -, -⟩ := STd.fs
                  obtain ⟨-, hq9⟩ := HDS.out w7.drew FRd
                  obtain ⟨-, q1d, -⟩ := sfC_cells hq9
                  rw [HHC.out] at q1d
                  obtain ⟨-, cCd, fCd⟩ := STd.cell (i := C + 1) (by rw [put_len]; exact HCC1.out)
                  rw [put_len] at s0d
                  refine x60_c gS gC gQ S.cells.length cap C (C + 1) 0 0 ((cvv : Nat) : Int) 0 0 0 zz9 t29 t79 t369 HMW1.out HCC1.out s0d q1d ⟨_, by rw [Nat.zero_add]; exact cCd⟩ (by rw [Nat.zero_add]; exact fCd) ?_
                  intro a10 d10 z10 o10
                  rw [Nat.zero_add]
                  have t010 := (o10 0 (by decide)).trans t09
                  have t110 := (o10 1 (by decide)).trans t19
                  have t210 := (o10 2 (by decide)).trans t29
                  have t310 := (o10 3 (by decide)).trans t39
                  have t710 := (o10 7 (by decide)).trans t79
                  have t2910 := (o10 29 (by decide)).trans t299
                  have t3010 := (o10 30 (by decide)).trans t309
                  have t3210 := (o10 32 (by decide)).trans t329
                  have t3410 := (o10 34 (by decide)).trans t349
                  have t3610 := (o10 36 (by decide)).trans t369
                  have t3710 := (o10 37 (by decide)).trans t379
                  have t3810 := (o10 38 (by decide)).trans t389
                  have t3910 := (o10 39 (by decide)).trans t399
                  have zz10 := z10.trans zz9
                  have dd10 := d10.trans dd9
                  have ST8 := STd.put (i := C + 1) (by rw [put_len]; exact HCC1.out) cvv
                  have FR8 := FRd.trans (frC w7.drew gS gC (C + 1) (.int .u64 ((cvv : Nat) : Int)))
                  clear STd FRd s0d q1d hq9 cCd fCd ST7 FR7 d10 z10 o10
                  generalize w7.drew.setCell ⟨gC, C + 1, none⟩ (.int .u64 ((cvv : Nat) : Int)) = w8 at ST8 FR8 ⊢
                  go_upto_region 61 with fail
                  have STd := ST8.keep ((Keep.refl w8).drew)
                  have FRd := FR8.trans (Fr.keep (P := pS gS gC) ((Keep.refl w8).drew))
                  obtain ⟨s0d, -, -⟩ := STd.fs
                  obtain ⟨-, hq9⟩ := HDS.out w8.drew FRd
                  obtain ⟨-, q1d, -⟩ := sfC_cells hq9
                  rw [HHC.out] at q1d
                  obtain ⟨-, cCd, fCd⟩ := STd.cell (i := C + 2) (by rw [put_len, put_len]; exact HCC2.out)
                  rw [put_len, put_len] at s0d
                  refine x61_c gS gC gQ S.cells.length cap C (C + 2) ((n0 : Nat) : Int) 0 0 0 0 0 zz10 t210 t710 t2910 HMW2.out HCC2.out s0d q1d ⟨_, by rw [Nat.zero_add]; exact cCd⟩ (by rw [Nat.zero_add]; exact fCd) ?_
                  intro a11 d11 z11 o11
                  rw [Nat.zero_add]
                  have t011 := (o11 0 (by decide)).trans t010
                  have t111 := (o11 1 (by decide)).trans t110
                  have t211 := (o11 2 (by decide)).trans t210
                  have t311 := (o11 3 (by decide)).trans t310
                  have t711 := (o11 7 (by decide)).trans t710
                  have t2911 := (o11 29 (by decide)).trans t2910
                  have t3011 := (o11 30 (by decide)).trans t3010
                  have t3211 := (o11 32 (by decide)).trans t3210
                  have t3411 := (o11 34 (by decide)).trans t3410
                  have t3611 := (o11 36 (by decide)).trans t3610
                  have t3711 := (o11 37 (by decide)).trans t3710
                  have t3811 := (o11 38 (by decide)).trans t3810
                  have t3911 := (o11 39 (by decide)).trans t3910
                  have zz11 := z11.trans zz10
                  have dd11 := d11.trans dd10
                  have ST9 := STd.put (i := C + 2) (by rw [put_len, put_len]; exact HCC2.out) n0
                  have FR9 := FRd.trans (frC w8.drew gS gC (C + 2) (.int .u64 ((n0 : Nat) : Int)))
                  clear STd FRd s0d q1d hq9 cCd fCd ST8 FR8 d11 z11 o11
                  generalize w8.drew.setCell ⟨gC, C + 2, none⟩ (.int .u64 ((n0 : Nat) : Int)) = w9 at ST9 FR9 ⊢
                  go_upto_region 62 with fail
                  obtain ⟨-, s1d, sfd⟩ := ST9.fs
                  refine x62_c gS S.fault f0 f1 f2 zz11 t211 t3011 t3211 t3411 s1d sfd ?_
                  intro a12 d12 z12 o12
                  have t012 := (o12 0 (by decide)).trans t011
                  have t112 := (o12 1 (by decide)).trans t111
                  have t212 := (o12 2 (by decide)).trans t211
                  have t312 := (o12 3 (by decide)).trans t311
                  have t712 := (o12 7 (by decide)).trans t711
                  have t2912 := (o12 29 (by decide)).trans t2911
                  have t3012 := (o12 30 (by decide)).trans t3011
                  have t3212 := (o12 32 (by decide)).trans t3211
                  have t3412 := (o12 34 (by decide)).trans t3411
                  have t3612 := (o12 36 (by decide)).trans t3611
                  have t3712 := (o12 37 (by decide)).trans t3711
                  have t3812 := (o12 38 (by decide)).trans t3811
                  have t3912 := (o12 39 (by decide)).trans t3911
                  have zz12 := z12.trans zz11
                  have dd12 := d12.trans dd11
                  have STz := ST9.flt (S.fault || f0 || f1 || f2)
                  have FRz := FR9.trans (frS w9 gS gC (S.fault || f0 || f1 || f2))
                  clear ST9 FR9 s1d sfd d12 z12 o12
                  generalize w9.setCell ⟨gS, 1, none⟩ (.bool (S.fault || f0 || f1 || f2)) = wz at STz FRz ⊢
                  go_upto_region 63 with fail
                  refine x63_c k zz12 t3912 (by omega) ?_
                  intro a13 d13 z13 o13 t3913
                  go_wp2_with fail
                  refine Handed.intro (t.toL.length - (k + 1)) (by have := HK.out; omega) ?_
                  go_step
                  refine InvF.of (z13.trans zz12) (d13.trans dd12) ⟨k + 1, by have := HK.out; omega, getD_of t3913, HFV.out.trans FRz, ?_, getD_of ((o13 0 (by decide)).trans t012), getD_of ((o13 1 (by decide)).trans t112), getD_of ((o13 2 (by decide)).trans t212), getD_of ((o13 3 (by decide)).trans t312), getD_of ((o13 37 (by decide)).trans t3712), getD_of ((o13 38 (by decide)).trans t3812)⟩
                  rw [HF.out, EQ.out]
                  rw [show (S.fault || (f0 || f1 || f2)) = (S.fault || f0 || f1 || f2) by cases S.fault <;> cases f0 <;> cases f1 <;> rfl]
                  exact STz

              · rw [if_neg (fun h => zc h.1)] at HCVV
                obtain rfl : cvv = S.at (C + 1) := HCVV.out
                clear HCVV
                have zc1 : ((n0 : Int) == 1) = false := by simp; omega
                go_upto_region 57 with fail
                refine r57a_c (n0 : Int) rfl rfl zc1 ?_
                simp only [lay, r57aL, List.foldl_cons, List.foldl_nil]
                simp only [put_litx, List.set_cons_succ, List.set_cons_zero]
                obtain ⟨w6, hw9⟩ : ∃ w6, w6 = w5.drew := ⟨_, rfl⟩
                rw [← hw9]
                have STw6 : StM w6 gS gC (some ⟨gC, 0, none⟩) cap sp S := by rw [hw9]; exact HSTw5.out.keep ((Keep.refl _).drew)
                have FRw6 : Fr (pS gS gC) V w6 := by rw [hw9]; exact HFRw5.out.trans (Fr.keep ((Keep.refl _).drew))
                have HSTw6 := Hid.mk STw6
                have HFRw6 := Hid.mk FRw6
                clear hw9 s0 s1 sf q0 q1 q2 q3 q4 q5 q6 q7 d0 d1 d2 d3 d4 d5 d6 d7 d8 cC fC cC1 fC1 cC2 fC2
                clear STw6 FRw6
                have ST9 := HSTw6.out
                have FR9 := HFRw6.out
                obtain ⟨hd9, hq9⟩ := HDS.out w6 FR9
                obtain ⟨d0, d1, d2, d3, d4, d5, d6, d7, d8⟩ := prC_cells hd9
                obtain ⟨q0, q1, q2, q3, q4, q5, q6, q7⟩ := sfC_cells hq9
                obtain ⟨s0, s1, sf⟩ := (ST9).fs
                clear hd9 hq9
                rw [HHC.out] at q1
                obtain ⟨-, cC, fC⟩ := ST9.cell HCC.out
                obtain ⟨-, cC1, fC1⟩ := ST9.cell HCC1.out
                obtain ⟨-, cC2, fC2⟩ := ST9.cell HCC2.out
                clear ST9 FR9
                generalize S.at (C + 1) = cvv at *
                go_upto_region 59 with fail
                have STd := HSTw6.out.keep ((Keep.refl w6).drew)
                have FRd := HFRw6.out.trans (Fr.keep (P := pS gS gC) ((Keep.refl w6).drew))
                obtain ⟨s0d, -, -⟩ := STd.fs
                obtain ⟨-, hq9⟩ := HDS.out w6.drew FRd
                obtain ⟨-, q1d, -⟩ := sfC_cells hq9
                rw [HHC.out] at q1d
                obtain ⟨-, cCd, fCd⟩ := STd.cell HCC.out
                refine x59_c gS gC gQ S.cells.length cap C 0 ((n0 : Nat) : Int) ((n2 : Nat) : Int) ((cvv : Nat) : Int) (A : Int) (sgn cvv A) (sgn n2 A) rfl rfl rfl rfl rfl rfl HSE.out HSP.out HCC.out s0d q1d ⟨_, by rw [Nat.zero_add]; exact cCd⟩ (by rw [Nat.zero_add]; exact fCd) ?_
                intro a9 d9 z9 o9
                rw [Nat.zero_add]
                have t09 : a9.tmps[0]? = some _ := o9 0 (by decide)
                have t19 : a9.tmps[1]? = some _ := o9 1 (by decide)
                have t29 : a9.tmps[2]? = some _ := o9 2 (by decide)
                have t39 : a9.tmps[3]? = some _ := o9 3 (by decide)
                have t79 : a9.tmps[7]? = some _ := o9 7 (by decide)
                have t299 : a9.tmps[29]? = some _ := o9 29 (by decide)
                have t309 : a9.tmps[30]? = some _ := o9 30 (by decide)
                have t329 : a9.tmps[32]? = some _ := o9 32 (by decide)
                have t349 : a9.tmps[34]? = some _ := o9 34 (by decide)
                have t369 : a9.tmps[36]? = some _ := o9 36 (by decide)
                have t379 : a9.tmps[37]? = some _ := o9 37 (by decide)
                have t389 : a9.tmps[38]? = some _ := o9 38 (by decide)
                have t399 : a9.tmps[39]? = some _ := o9 39 (by decide)
                have zz9 : a9.tmps.size = 523 := z9.trans rfl
                have dd9 : a9.defers = [] := d9.trans rfl
                clear d9 z9 o9
                have ST7 := STd.put HCC.out (decide (sgn n2 A ≤ sgn cvv A)).toNat
                have FR7 := FRd.trans (frC w6.drew gS gC C (.int .u64 (((decide (sgn n2 A ≤ sgn cvv A)).toNat : Nat) : Int)))
                clear STd FRd s0d q1d hq9 cCd fCd
                generalize w6.drew.setCell ⟨gC, C, none⟩ (.int .u64 (((decide (sgn n2 A ≤ sgn cvv A)).toNat : Nat) : Int)) = w7 at ST7 FR7 ⊢
                go_upto_region 60 with fail
                have STd := ST7.keep ((Keep.refl w7).drew)
                have FRd := FR7.trans (Fr.keep (P := pS gS gC) ((Keep.refl w7).drew))
                obtain ⟨s0d, -, -⟩ := STd.fs
                obtain ⟨-, hq9⟩ := HDS.out w7.drew FRd
                obtain ⟨-, q1d, -⟩ := sfC_cells hq9
                rw [HHC.out] at q1d
                obtain ⟨-, cCd, fCd⟩ := STd.cell (i := C + 1) (by rw [put_len]; exact HCC1.out)
                rw [put_len] at s0d
                refine x60_c gS gC gQ S.cells.length cap C (C + 1) 0 0 ((cvv : Nat) : Int) 0 0 0 zz9 t29 t79 t369 HMW1.out HCC1.out s0d q1d ⟨_, by rw [Nat.zero_add]; exact cCd⟩ (by rw [Nat.zero_add]; exact fCd) ?_
                intro a10 d10 z10 o10
                rw [Nat.zero_add]
                have t010 := (o10 0 (by decide)).trans t09
                have t110 := (o10 1 (by decide)).trans t19
                have t210 := (o10 2 (by decide)).trans t29
                have t310 := (o10 3 (by decide)).trans t39
                have t710 := (o10 7 (by decide)).trans t79
                have t2910 := (o10 29 (by decide)).trans t299
                have t3010 := (o10 30 (by decide)).trans t309
                have t3210 := (o10 32 (by decide)).trans t329
                have t3410 := (o10 34 (by decide)).trans t349
                have t3610 := (o10 36 (by decide)).trans t369
                have t3710 := (o10 37 (by decide)).trans t379
                have t3810 := (o10 38 (by decide)).trans t389
                have t3910 := (o10 39 (by decide)).trans t399
                have zz10 := z10.trans zz9
                have dd10 := d10.trans dd9
                have ST8 := STd.put (i := C + 1) (by rw [put_len]; exact HCC1.out) cvv
                have FR8 := FRd.trans (frC w7.drew gS gC (C + 1) (.int .u64 ((cvv : Nat) : Int)))
                clear STd FRd s0d q1d hq9 cCd fCd ST7 FR7 d10 z10 o10
                generalize w7.drew.setCell ⟨gC, C + 1, none⟩ (.int .u64 ((cvv : Nat) : Int)) = w8 at ST8 FR8 ⊢
                go_upto_region 61 with fail
                have STd := ST8.keep ((Keep.refl w8).drew)
                have FRd := FR8.trans (Fr.keep (P := pS gS gC) ((Keep.refl w8).drew))
                obtain ⟨s0d, -, -⟩ := STd.fs
                obtain ⟨-, hq9⟩ := HDS.out w8.drew FRd
                obtain ⟨-, q1d, -⟩ := sfC_cells hq9
                rw [HHC.out] at q1d
                obtain ⟨-, cCd, fCd⟩ := STd.cell (i := C + 2) (by rw [put_len, put_len]; exact HCC2.out)
                rw [put_len, put_len] at s0d
                refine x61_c gS gC gQ S.cells.length cap C (C + 2) ((n0 : Nat) : Int) 0 0 0 0 0 zz10 t210 t710 t2910 HMW2.out HCC2.out s0d q1d ⟨_, by rw [Nat.zero_add]; exact cCd⟩ (by rw [Nat.zero_add]; exact fCd) ?_
                intro a11 d11 z11 o11
                rw [Nat.zero_add]
                have t011 := (o11 0 (by decide)).trans t010
                have t111 := (o11 1 (by decide)).trans t110
                have t211 := (o11 2 (by decide)).trans t210
                have t311 := (o11 3 (by decide)).trans t310
                have t711 := (o11 7 (by decide)).trans t710
                have t2911 := (o11 29 (by decide)).trans t2910
                have t3011 := (o11 30 (by decide)).trans t3010
                have t3211 := (o11 32 (by decide)).trans t3210
                have t3411 := (o11 34 (by decide)).trans t3410
                have t3611 := (o11 36 (by decide)).trans t3610
                have t3711 := (o11 37 (by decide)).trans t3710
                have t3811 := (o11 38 (by decide)).trans t3810
                have t3911 := (o11 39 (by decide)).trans t3910
                have zz11 := z11.trans zz10
                have dd11 := d11.trans dd10
                have ST9 := STd.put (i := C + 2) (by rw [put_len, put_len]; exact HCC2.out) n0
                have FR9 := FRd.trans (frC w8.drew gS gC (C + 2) (.int .u64 ((n0 : Nat) : Int)))
                clear STd FRd s0d q1d hq9 cCd fCd ST8 FR8 d11 z11 o11
                generalize w8.drew.setCell ⟨gC, C + 2, none⟩ (.int .u64 ((n0 : Nat) : Int)) = w9 at ST9 FR9 ⊢
                go_upto_region 62 with fail
                obtain ⟨-, s1d, sfd⟩ := ST9.fs
                refine x62_c gS S.fault f0 f1 f2 zz11 t211 t3011 t3211 t3411 s1d sfd ?_
                intro a12 d12 z12 o12
                have t012 := (o12 0 (by decide)).trans t011
                have t112 := (o12 1 (by decide)).trans t111
                have t212 := (o12 2 (by decide)).trans t211
                have t312 := (o12 3 (by decide)).trans t311
                have t712 := (o12 7 (by decide)).trans t711
                have t2912 := (o12 29 (by decide)).trans t2911
                have t3012 := (o12 30 (by decide)).trans t3011
                have t3212 := (o12 32 (by decide)).trans t3211
                have t3412 := (o12 34 (by decide)).trans t3411
                have t3612 := (o12 36 (by decide)).trans t3611
                have t3712 := (o12 37 (by decide)).trans t3711
                have t3812 := (o12 38 (by decide)).trans t3811
                have t3912 := (o12 39 (by decide)).trans t3911
                have zz12 := z12.trans zz11
                have dd12 := d12.trans dd11
                have STz := ST9.flt (S.fault || f0 || f1 || f2)
                have FRz := FR9.trans (frS w9 gS gC (S.fault || f0 || f1 || f2))
                clear ST9 FR9 s1d sfd d12 z12 o12
                generalize w9.setCell ⟨gS, 1, none⟩ (.bool (S.fault || f0 || f1 || f2)) = wz at STz FRz ⊢
                go_upto_region 63 with fail
                refine x63_c k zz12 t3912 (by omega) ?_
                intro a13 d13 z13 o13 t3913
                go_wp2_with fail
                refine Handed.intro (t.toL.length - (k + 1)) (by have := HK.out; omega) ?_
                go_step
                refine InvF.of (z13.trans zz12) (d13.trans dd12) ⟨k + 1, by have := HK.out; omega, getD_of t3913, HFV.out.trans FRz, ?_, getD_of ((o13 0 (by decide)).trans t012), getD_of ((o13 1 (by decide)).trans t112), getD_of ((o13 2 (by decide)).trans t212), getD_of ((o13 3 (by decide)).trans t312), getD_of ((o13 37 (by decide)).trans t3712), getD_of ((o13 38 (by decide)).trans t3812)⟩
                rw [HF.out, EQ.out]
                rw [show (S.fault || (f0 || f1 || f2)) = (S.fault || f0 || f1 || f2) by cases S.fault <;> cases f0 <;> cases f1 <;> rfl]
                exact STz

      · have j1 : ¬ (k : Int) < t.toL.length := by omega
        obtain rfl : k = t.toL.length := by omega
        rw [List.take_length, ← HX.out] at hG
        have HZ := Hid.mk hG
        have HKR := Hid.mk ((Fr.keep (P := pS gS gC) HKW.out).trans kp)
        clear hk kp hG HG
        go_wp2_with fail
        go_end0
        exact ⟨rfl, HZ.out, HKR.out⟩
end Go.Proofs.Qxb6500772a
