/- foldindexm: bearers, the walk. -/
import Derived.Test.Qxb6500766aMe
import Derived.Test.Qxb6500766aSc
import Derived.Deep.CutBlock
namespace Go.Proofs.Qxb6500766a
open Go Go.RowKit Go.Qm
set_option linter.unusedVariables false
set_option linter.unusedSimpArgs false
attribute [local go_sem ↓] Go.wp_at_zero Go.wp_at_succ
def BubI (w : World) (gN : Nat) (e : Ent) (es : List Ent) (R : List Value) (j : Nat) (W : World) : Prop := Arr W gN 64 ((es.take j ++ e :: es.drop j).flatMap entC ++ R) ∧ Keep w W ∧ ∀ k (hk : k < es.length), j ≤ k → befE e es[k] = false
theorem hole_at (es : List Ent) (q : Nat) (hq : q ≤ es.length) (x : Ent) (h : q < (es.take q ++ x :: es.drop q).length) : (es.take q ++ x :: es.drop q)[q] = x := by
  rw [List.getElem_append_right (by rw [List.length_take]; omega)]
  simp [List.length_take, Nat.min_eq_left hq]
theorem swap_hole (es : List Ent) (j : Nat) (hj : j < es.length) (x : Ent) : ((es.take (j + 1) ++ x :: es.drop (j + 1)).set j x).set (j + 1) es[j] = es.take j ++ x :: es.drop j := by
  rw [List.take_succ_eq_append_getElem hj, List.append_assoc, List.set_append_right _ _ (by rw [List.length_take]; omega), show j - (es.take j).length = 0 by rw [List.length_take]; omega]
  rw [List.set_append_right _ _ (by rw [List.length_take]; omega), show j + 1 - (es.take j).length = 1 by rw [List.length_take]; omega]
  simp
section
variable {B : Nat} {fp : Nat → Prop} {w : World} {gm : Nat} {rows : List Row}
set_option maxRecDepth 4000 in
set_option maxHeartbeats 8000000 in
theorem bearers_c (d : Int) (key : List UInt8) (h : MW B fp w gm rows) (hlen : rows.length ≤ 65536) (hnm : ∀ r ∈ rows, r.raw.length ≤ 65536) (hdis : DisR rows) :
    Calls Try.prog 37 #[.pointer (some ⟨gm, 0, none⟩), .int .i64 d, str key] w fun e w' => ScanP w (mbF d key rows) e w' := by
  obtain ⟨v, Am, RW, hf⟩ := h.ex
  obtain ⟨av, cv, rfl, hcv, hcm, hca⟩ := RW.read
  have HCA := Hid.mk hca
  have HTL : Hid (rows.take rows.length = rows) := Hid.mk List.take_length
  have HMT : Hid (∀ i (hi : i < rows.length), mbF d key (rows.take (i + 1)) = if hitR d key rows[i] = true then insE (entR rows[i]) (mbF d key (rows.take i)) else mbF d key (rows.take i)) := Hid.mk (fun i hi => mb_take hi)
  have HMS := Hid.mk (fun i hi => mb_srt (d := d) (key := key) hdis i hi)
  have HML : Hid (∀ i, (mbF d key (rows.take i)).length ≤ 65536) := Hid.mk (fun i => Nat.le_trans (mb_len _) (by rw [List.length_take]; omega))
  have HNM := Hid.mk hnm
  obtain ⟨n, hn⟩ : ∃ n, n = rows.length := ⟨_, rfl⟩
  rw [← hn] at hcv hlen Am
  have HN := Hid.mk hn
  have c0 := Go.Qm.Arr.cell Am 0
  simp only [List.getElem?_cons_zero] at c0
  clear h hn hca RW hf hnm hdis
  go_enter Try.func37, Try.ntmps37
  go_wp2_with fail
  go_loopg [7, 8] n (fun gk ov iv wr => ∃ (i : Nat) (vO : Value) (es : List Ent), i + gk = n ∧ iv = .int .i64 i ∧ ov = vO ∧ EntO w.heap.size wr vO es ∧ es = mbF d key (rows.take i) ∧ Keep w wr)
  case atStart => exact ⟨0, _, [], by omega, rfl, rfl, OwnS.nil _ _ _ _ _, rfl, Keep.refl _⟩
  case round =>
    obtain ⟨i, vO, es, hi8, rfl, hvO, oX, hes, kw⟩ := hrel
    have hvO := hvO.symm
    subst hvO
    have HI8 := Hid.mk hi8
    have HES := Hid.mk hes
    clear hi8 hes
    have m0 := kw.cell c0
    by_cases hin : i < n
    · have j1 : (i : Int) < n := by omega
      have hir : i < rows.length := by have := HN.out; omega
      obtain ⟨gR, rfl, hgR, hr⟩ := HCA.out i hir
      obtain ⟨r0, r1, r2, r3⟩ := hr wr (kw.block gR hgR)
      have HMi := Hid.mk (HMT.out i hir)
      have HSi : Hid (SrtE es) := Hid.mk (by rw [HES.out]; exact HMS.out i (by omega))
      have HRB : Hid (∀ x ∈ es, x.raw.length ≤ 65536) := Hid.mk (fun x hx => by
        rw [HES.out] at hx
        obtain ⟨r, hr, _, rfl⟩ := mem_mb.1 hx
        exact HNM.out r (List.mem_of_mem_take hr))
      have hel : es.length ≤ 65536 := by rw [HES.out]; exact HML.out i
      have hrl := HNM.out _ (List.getElem_mem hir)
      clear hr
      generalize rows[i] = r at *
      obtain ⟨rd, rl, rn, rk⟩ := r
      simp only at r0 r1 r2 r3 HMi hrl
      have KC := fun W => key_c rn W (by omega)
      have k1 := (Keep.refl wr).alloc (.cells #[.int .i64 rd, .int .i64 rl, str rn, .int .i64 rk] 112)
      have A1 := Arr.new wr 112 [.int .i64 rd, .int .i64 rl, str rn, .int .i64 rk]
      go_wp2_with fail
      generalize wr.alloc (.cells #[.int .i64 rd, .int .i64 rl, str rn, .int .i64 rk] 112) = w1 at *
      refine (KC _).mono ?_
      rintro e w2 ⟨hK, k2⟩
      have A2 := A1.keep k2
      have kw2 := (kw.trans k1).trans k2
      have o2 := (oX.keep k1).keep k2
      generalize wr.heap.size = gA at *
      have q0 := Go.Qm.Arr.cell A2 0
      have q1 := Go.Qm.Arr.cell A2 1
      have q2 := Go.Qm.Arr.cell A2 2
      have q3 := Go.Qm.Arr.cell A2 3
      simp only [List.getElem?_cons_zero, List.getElem?_cons_succ] at q0 q1 q2 q3
      clear m0 r0 r1 r2 r3 A1 k1 oX KC
      have hskip : Hid (hitR d key ⟨rd, rl, rn, rk⟩ = false → es = mbF d key (rows.take (i + 1))) := Hid.mk (fun q => by rw [HMi.out, if_neg (by simp [q])]; exact HES.out)
      by_cases hd : rd = d
      · have t1 : (rd != d) = false := by simpa using hd
        rcases hK with ⟨hK, rfl⟩ | ⟨k', hK, rfl⟩
        · have HE := Hid.mk (hskip.out (by unfold hitR; rw [hK]; simp))
          clear hd hK
          go_wp2_with fail
          go_roundg (gk - 1)
          case measure => have := HI8.out; omega
          case rel => exact ⟨i + 1, _, es, by have := HI8.out; omega, by go_num, rfl, o2, HE.out, kw2⟩
        · by_cases hkk : k' = key
          · have t2 : (k' != key) = false := by simpa using hkk
            have t3 : (k' == key) = true := by simpa using hkk
            have HE : Hid (mbF d key (rows.take (i + 1)) = insE ⟨rl, rn, rk⟩ es) := Hid.mk (by rw [HMi.out, if_pos (by unfold hitR; rw [hK, hkk, hd]; simp), HES.out]; rfl)
            clear hd hK hkk hskip
            have hws := kw2.size
            go_upto_region 9 with (at_builtin; refine wpList_appS (by rfl) _ _ _ (by rfl) entC Try.underlying27 inf64 rfl (by omega) entC_length w.heap.size (by rfl) (o2.alloc _) _ ⟨rl, rn, rk⟩ (by rfl) (Arr.new w2 64 (entC ⟨rl, rn, rk⟩)) (entC_one _) (by simp only [maxLen]; omega) (by omega) (by simp; omega) ?_; intro v' w3 hown' hgr hob)
            have kw3 := (kw2.alloc (.cells (entC ⟨rl, rn, rk⟩).toArray 64)).grown hgr (fun q hq => (o2.lt q hq).1)
            have FO : ∃ gN cN R, v' = .slice (some ⟨gN, 0, none⟩) (es.length + 1) cN ∧ w.heap.size ≤ gN ∧ Arr w3 gN 64 ((es ++ [(⟨rl, rn, rk⟩ : Ent)]).flatMap entC ++ R) ∧ es.length + 1 ≤ cN ∧ cN ≤ 2 ^ 63 - 1 ∧ (es.length + 1) * 3 + R.length = cN * 3 := by
              rcases OwnS.form hown' with ⟨_, e0⟩ | ⟨g, cap, cur, e1, hB, hA, hnc, hcm, hcs, htk⟩
              · simp at e0
              · rw [List.length_append, List.length_singleton] at e1 hnc htk
                refine ⟨g, cap, cur.drop ((es.length + 1) * 3), e1, hB, ?_, hnc, by unfold maxLen at hcm; exact hcm, by rw [List.length_drop]; omega⟩
                rw [← htk, List.take_append_drop]
                exact hA
            obtain ⟨gN, cN, RR, rfl, hgN, A3, hN1, hN2, hN3⟩ := FO
            have BI0 : BubI w gN ⟨rl, rn, rk⟩ es RR es.length w3 := ⟨by rw [List.take_length, List.drop_length]; exact A3, kw3, fun k hk hj => by omega⟩
            have HEO : Hid (∀ W j, j ≤ es.length → BubI w gN ⟨rl, rn, rk⟩ es RR j W → (∀ (h : j - 1 < es.length), 0 < j → befE ⟨rl, rn, rk⟩ es[j - 1] = true) → EntO w.heap.size W (.slice (some ⟨gN, 0, none⟩) (es.length + 1) cN) (mbF d key (rows.take (i + 1))) ∧ Keep w W) := Hid.mk (fun W j hj hb hst => by
              rw [HE.out, ← bub_end HSi.out hj hb.2.2 hst]
              exact ⟨ent_of_arr hgN hb.1 (hole_len es j hj _).symm hN3 hN2, hb.2.1⟩)
            obtain ⟨E, hE⟩ : ∃ E, E = es.length := ⟨_, rfl⟩
            rw [← hE] at BI0 hN1 hel ⊢
            have HEL := Hid.mk hE
            obtain ⟨N, hNN⟩ : ∃ N, N = E + 1 := ⟨_, rfl⟩
            rw [← hNN] at hN1 ⊢
            have HNN := Hid.mk hNN
            have hN5 : N ≤ 65537 := by omega
            have hN6 : (1 : Int) ≤ N := by omega
            clear hE hNN hown' A3 hob hgr kw3 q0 q1 q2 q3 A2 o2 t1 t2 t3
            go_wp2_with fail
            obtain ⟨gO, hgO⟩ : ∃ g, g = gk := ⟨_, rfl⟩
            subst hgO
            go_loopg [12] E (fun gj jv wy => ∃ jj : Nat, jj = gj ∧ jv = .int .i64 jj ∧ jj ≤ E ∧ BubI w gN ⟨rl, rn, rk⟩ es RR jj wy)
            case atStart => exact ⟨E, rfl, by have := HNN.out; go_num, Nat.le_refl _, BI0⟩
            case round =>
              obtain ⟨jj, hjj, rfl, hjE, hb⟩ := hrel
              have HJJ := Hid.mk hjj
              clear hjj BI0
              cases jj with
              | zero =>
                have HZ := Hid.mk (HEO.out wr 0 (Nat.zero_le _) hb (fun h h0 => by omega))
                have t0 : ¬ ((0 : Nat) : Int) > 0 := by omega
                go_wp2_with fail
                go_roundg (gO - 1)
                case measure => have := HI8.out; omega
                case rel => exact ⟨i + 1, _, _, by have := HI8.out; omega, by go_num, by rw [HNN.out, HEL.out], HZ.out.1, rfl, HZ.out.2⟩
              | succ j =>
                have hj : j < es.length := by have := HEL.out; omega
                obtain ⟨jk, hjk⟩ : ∃ x, x = j + 1 := ⟨_, rfl⟩
                rw [← hjk] at hb hjE HJJ ⊢
                have HJK := Hid.mk hjk
                have t0 : (jk : Int) > 0 := by omega
                have i1 : (jk : Int) < N := by have := HNN.out; omega
                have i2 : (j : Int) < N := by have := HNN.out; omega
                have e2 : IntKind.i64.wrap ((jk : Int) - 1) = (j : Int) := by rw [IntKind.wrap_i64] <;> omega
                obtain ⟨ab, kb, hge⟩ := hb
                have hLl := hole_len es jk (by omega) ⟨rl, rn, rk⟩
                have a0 := arr_get3 ab (j := j) (c := 0) (by omega) (by omega)
                have a1 := arr_get3 ab (j := j) (c := 1) (by omega) (by omega)
                have a2 := arr_get3 ab (j := j) (c := 2) (by omega) (by omega)
                have b0 := arr_get3 ab (j := jk) (c := 0) (by omega) (by omega)
                have b1 := arr_get3 ab (j := jk) (c := 1) (by omega) (by omega)
                have b2 := arr_get3 ab (j := jk) (c := 2) (by omega) (by omega)
                have hl1 : (es.take jk ++ (⟨rl, rn, rk⟩ : Ent) :: es.drop jk)[j]'(by omega) = es[j] := by
                  have := hole_get es j hj ⟨rl, rn, rk⟩
                  rw [← HJK.out] at this
                  exact this (by omega)
                have hl2 : (es.take jk ++ (⟨rl, rn, rk⟩ : Ent) :: es.drop jk)[jk]'(by omega) = ⟨rl, rn, rk⟩ := hole_at es jk (by omega) _ (by omega)
                rw [hl1] at a0 a1 a2
                rw [hl2] at b0 b1 b2
                simp only [entC, List.getElem?_cons_zero, List.getElem?_cons_succ, Nat.add_zero] at a0 a1 a2 b0 b1 b2
                have HSW : Hid (((es.take jk ++ (⟨rl, rn, rk⟩ : Ent) :: es.drop jk).set j ⟨rl, rn, rk⟩).set jk es[j] = es.take j ++ ⟨rl, rn, rk⟩ :: es.drop j) := Hid.mk (by rw [HJK.out]; exact swap_hole es j hj _)
                have HBF : Hid (befE ⟨rl, rn, rk⟩ es[j] = befB es[j].layer es[j].raw ⟨rl, rn, rk⟩) := Hid.mk rfl
                have HST : Hid (befE ⟨rl, rn, rk⟩ es[j] = true → ∀ (h : jk - 1 < es.length), 0 < jk → befE ⟨rl, rn, rk⟩ es[jk - 1] = true) := Hid.mk (fun q h _ => by
                  have e1 : jk - 1 = j := by have := HJK.out; omega
                  simp only [e1]; exact q)
                have HGE : Hid (befE ⟨rl, rn, rk⟩ es[j] = false → ∀ k (hk : k < es.length), j ≤ k → befE ⟨rl, rn, rk⟩ es[k] = false) := Hid.mk (fun q k hk hjk2 => by
                  by_cases e1 : k = j
                  · simp only [e1]; exact q
                  · exact hge k hk (by have := HJK.out; omega))
                have HAB := Hid.mk ab
                have HGE0 := Hid.mk hge
                have hxl : es[j].raw.length ≤ 65536 := HRB.out _ (List.getElem_mem hj)
                clear hl1 hl2 hjk hge ab
                generalize es[j] = X at *
                obtain ⟨xl, xr, xk⟩ := X
                simp only at a0 a1 a2 hxl HBF
                have H2N : Hid (∀ X Y : List Value, Arr ((wr.alloc (.cells X.toArray 64)).alloc (.cells Y.toArray 64)).drew wr.heap.size 64 X ∧ Arr ((wr.alloc (.cells X.toArray 64)).alloc (.cells Y.toArray 64)).drew (wr.heap.size + 1) 64 Y ∧ Keep wr ((wr.alloc (.cells X.toArray 64)).alloc (.cells Y.toArray 64)).drew) := Hid.mk (fun X Y => by
                  have p := Arr.new (wr.alloc (.cells X.toArray 64)) 64 Y
                  rw [show (wr.alloc (.cells X.toArray 64)).heap.size = wr.heap.size + 1 by simp] at p
                  exact ⟨Go.Qm.Arr.drew ((Arr.new wr 64 X).keep ((Keep.refl _).alloc _)), Go.Qm.Arr.drew p, (((Keep.refl wr).alloc _).alloc _).drew⟩)
                go_upto_region 12 with fail
                go_cut [13, 14] from 63 to 103 (fun pv qv wx => ∃ ga gb, pv = .pointer (some ⟨ga, 0, none⟩) ∧ qv = .pointer (some ⟨gb, 0, none⟩) ∧ ga ≠ gb ∧ wr.heap.size ≤ ga ∧ wr.heap.size ≤ gb ∧ Arr wx ga 64 [.int .i64 xl, str xr, .int .i64 xk] ∧ Arr wx gb 64 [.int .i64 rl, str rn, .int .i64 rk] ∧ Keep wr wx)
                case first =>
                  go_region_held3 (fun w' => w'.cell? ⟨gN, j * 3, none⟩ = some (.int .i64 xl) ∧ w'.cell? ⟨gN, j * 3 + 1, none⟩ = some (str xr) ∧ w'.cell? ⟨gN, j * 3 + 2, none⟩ = some (.int .i64 xk) ∧ w'.cell? ⟨gN, jk * 3, none⟩ = some (.int .i64 rl) ∧ w'.cell? ⟨gN, jk * 3 + 1, none⟩ = some (str rn) ∧ w'.cell? ⟨gN, jk * 3 + 2, none⟩ = some (.int .i64 rk))
                    (go_keep) (fail)
                  all_goals
                    go_wp2_with fail
                    go_meet
                    case rel =>
                      first
                      | exact ⟨wr.heap.size, wr.heap.size + 1, rfl, rfl, by omega, by omega, by omega, (H2N.out _ _).1, (H2N.out _ _).2.1, (H2N.out _ _).2.2⟩
                      | exact ⟨wr.heap.size + 1, wr.heap.size, rfl, rfl, by omega, by omega, by omega, (H2N.out _ _).2.1, (H2N.out _ _).1, (H2N.out _ _).2.2⟩
                case rest =>
                  obtain ⟨ga, gb, rfl, rfl, hab, hga, hgb, Aa, Ab, kc⟩ := hcut
                  have gNl : gN < wr.heap.size := HAB.out.lt
                  have AN := HAB.out.keep kc
                  have kbc := kb.trans kc
                  have x0 := Go.Qm.Arr.cell Aa 0
                  have x1 := Go.Qm.Arr.cell Aa 1
                  have x2 := Go.Qm.Arr.cell Aa 2
                  have y0 := Go.Qm.Arr.cell Ab 0
                  have y1 := Go.Qm.Arr.cell Ab 1
                  have y2 := Go.Qm.Arr.cell Ab 2
                  simp only [List.getElem?_cons_zero, List.getElem?_cons_succ] at x0 x1 x2 y0 y1 y2
                  have ML := fun W => mless_c xr rn W (by omega) (by omega)
                  have HML2 := Hid.mk ML
                  clear ML a0 a1 a2 b0 b1 b2
                  have HNE : Hid (ga ≠ gN ∧ gb ≠ gN) := Hid.mk ⟨by omega, by omega⟩
                  by_cases hlt : xl < rl
                  · have HBT : Hid (befE ⟨rl, rn, rk⟩ ⟨xl, xr, xk⟩ = true) := Hid.mk (by rw [HBF.out]; unfold befB; rw [if_neg (by show ¬ xl = rl; omega)]; exact decide_eq_true hlt)
                    have HZ := Hid.mk (HEO.out wc jk (by have := HEL.out; omega) ⟨AN.keep (Keep.refl wc), kbc.trans (Keep.refl wc), HGE0.out⟩ (HST.out HBT.out))
                    go_wp2_with fail
                    go_roundg (gO - 1)
                    case measure => have := HI8.out; omega
                    case rel => exact ⟨i + 1, _, _, by have := HI8.out; omega, by go_num, by rw [HNN.out, HEL.out], HZ.out.1, rfl, HZ.out.2⟩
                  · by_cases heq : xl = rl
                    · have t4 : (xl == rl) = true := by simpa using heq
                      have HBE : Hid (befE ⟨rl, rn, rk⟩ ⟨xl, xr, xk⟩ = lessB xr rn) := Hid.mk (by rw [HBF.out]; unfold befB; rw [if_pos heq])
                      clear heq
                      go_wp2_with fail
                      refine (HML2.out _).mono ?_
                      rintro e w6 ⟨rfl, k6⟩
                      cases hlb : lessB xr rn with
                      | true =>
                        have HBT := Hid.mk (HBE.out.trans hlb)
                        clear hlb
                        have HZ := Hid.mk (HEO.out w6 jk (by have := HEL.out; omega) ⟨AN.keep k6, kbc.trans k6, HGE0.out⟩ (HST.out HBT.out))
                        go_wp2_with fail
                        go_roundg (gO - 1)
                        case measure => have := HI8.out; omega
                        case rel => exact ⟨i + 1, _, _, by have := HI8.out; omega, by go_num, by rw [HNN.out, HEL.out], HZ.out.1, rfl, HZ.out.2⟩
                      | false =>
                        have HGE2 := Hid.mk (HGE.out (HBE.out.trans hlb))
                        clear hlb x0 x1 x2 y0 y1 y2
                        have AN5 := AN.keep k6
                        have Aa5 := Aa.keep k6
                        have Ab5 := Ab.keep k6
                        have kb5 := kbc.trans k6
                        have x0 := Go.Qm.Arr.cell Aa5 0
                        have x1 := Go.Qm.Arr.cell Aa5 1
                        have x2 := Go.Qm.Arr.cell Aa5 2
                        have y0 := Go.Qm.Arr.cell Ab5 0
                        have y1 := Go.Qm.Arr.cell Ab5 1
                        have y2 := Go.Qm.Arr.cell Ab5 2
                        simp only [List.getElem?_cons_zero, List.getElem?_cons_succ] at x0 x1 x2 y0 y1 y2
                        have hll := hole_len es jk (by have := HEL.out; omega) (⟨rl, rn, rk⟩ : Ent)
                        obtain ⟨u0, hu0⟩ : ∃ u, w6.cell? ⟨gN, j * 3, none⟩ = some u := ⟨_, (arr_get3 AN5 (j := j) (c := 0) (by have := HEL.out; omega) (by omega)).trans rfl⟩
                        obtain ⟨u1, hu1⟩ : ∃ u, w6.cell? ⟨gN, j * 3 + 1, none⟩ = some u := ⟨_, (arr_get3 AN5 (j := j) (c := 1) (by have := HEL.out; omega) (by omega)).trans rfl⟩
                        obtain ⟨u2, hu2⟩ : ∃ u, w6.cell? ⟨gN, j * 3 + 2, none⟩ = some u := ⟨_, (arr_get3 AN5 (j := j) (c := 2) (by have := HEL.out; omega) (by omega)).trans rfl⟩
                        have fz0 := Go.Qm.Arr.frozen AN5 (j * 3)
                        have fz1 := Go.Qm.Arr.frozen AN5 (j * 3 + 1)
                        have fz2 := Go.Qm.Arr.frozen AN5 (j * 3 + 2)
                        have S1 := arr_set3 AN5 (j := j) (by have := HEL.out; omega) (⟨rl, rn, rk⟩ : Ent)
                        simp only at S1
                        have hs1 : ((es.take jk ++ (⟨rl, rn, rk⟩ : Ent) :: es.drop jk).set j ⟨rl, rn, rk⟩).length = es.length + 1 := by rw [List.length_set]; exact hll
                        have S2 := arr_set3 S1 (j := jk) (by have := HEL.out; omega) (⟨xl, xr, xk⟩ : Ent)
                        rw [HSW.out] at S2
                        simp only at S2
                        obtain ⟨v0, hv0⟩ : ∃ u, (((w6.setCell ⟨gN, j * 3, none⟩ (.int .i64 rl)).setCell ⟨gN, j * 3 + 1, none⟩ (str rn)).setCell ⟨gN, j * 3 + 2, none⟩ (.int .i64 rk)).cell? ⟨gN, jk * 3, none⟩ = some u := ⟨_, (arr_get3 S1 (j := jk) (c := 0) (by have := HEL.out; omega) (by omega)).trans rfl⟩
                        obtain ⟨v1, hv1⟩ : ∃ u, (((w6.setCell ⟨gN, j * 3, none⟩ (.int .i64 rl)).setCell ⟨gN, j * 3 + 1, none⟩ (str rn)).setCell ⟨gN, j * 3 + 2, none⟩ (.int .i64 rk)).cell? ⟨gN, jk * 3 + 1, none⟩ = some u := ⟨_, (arr_get3 S1 (j := jk) (c := 1) (by have := HEL.out; omega) (by omega)).trans rfl⟩
                        obtain ⟨v2, hv2⟩ : ∃ u, (((w6.setCell ⟨gN, j * 3, none⟩ (.int .i64 rl)).setCell ⟨gN, j * 3 + 1, none⟩ (str rn)).setCell ⟨gN, j * 3 + 2, none⟩ (.int .i64 rk)).cell? ⟨gN, jk * 3 + 2, none⟩ = some u := ⟨_, (arr_get3 S1 (j := jk) (c := 2) (by have := HEL.out; omega) (by omega)).trans rfl⟩
                        have gz0 := Go.Qm.Arr.frozen S1 (jk * 3)
                        have gz1 := Go.Qm.Arr.frozen S1 (jk * 3 + 1)
                        have gz2 := Go.Qm.Arr.frozen S1 (jk * 3 + 2)
                        have KS := (((((kb5.setCell (p := ⟨gN, j * 3, none⟩) hgN (.int .i64 rl)).setCell (p := ⟨gN, j * 3 + 1, none⟩) hgN (str rn)).setCell (p := ⟨gN, j * 3 + 2, none⟩) hgN (.int .i64 rk)).setCell (p := ⟨gN, jk * 3, none⟩) hgN (.int .i64 xl)).setCell (p := ⟨gN, jk * 3 + 1, none⟩) hgN (str xr)).setCell (p := ⟨gN, jk * 3 + 2, none⟩) hgN (.int .i64 xk)
                        have HS2 := Hid.mk (Go.Qm.Arr.drew S2)
                        have HKS := Hid.mk KS.drew
                        have n1 : ga ≠ gN := HNE.out.1
                        have n2 : gb ≠ gN := HNE.out.2
                        have G1 := grown_set (grown_set (grown_set (grown_refl w6 (some gN)) (j * 3) (.int .i64 rl)) (j * 3 + 1) (str rn)) (j * 3 + 2) (.int .i64 rk)
                        have G2 := grown_set (grown_set (grown_set G1 (jk * 3) (.int .i64 xl)) (jk * 3 + 1) (str xr)) (jk * 3 + 2) (.int .i64 xk)
                        have Aa6 := Aa5.kept G1 n1
                        have Ab6 := Ab5.kept G1 n2
                        have Aa7 := Aa5.kept G2 n1
                        have Ab7 := Ab5.kept G2 n2
                        have HK6 : Hid ((((w6.setCell ⟨gN, j * 3, none⟩ (.int .i64 rl)).setCell ⟨gN, j * 3 + 1, none⟩ (str rn)).setCell ⟨gN, j * 3 + 2, none⟩ (.int .i64 rk)).drew.cell? ⟨ga, 0, none⟩ = some (.int .i64 xl) ∧ (((w6.setCell ⟨gN, j * 3, none⟩ (.int .i64 rl)).setCell ⟨gN, j * 3 + 1, none⟩ (str rn)).setCell ⟨gN, j * 3 + 2, none⟩ (.int .i64 rk)).drew.cell? ⟨ga, 1, none⟩ = some (str xr) ∧ (((w6.setCell ⟨gN, j * 3, none⟩ (.int .i64 rl)).setCell ⟨gN, j * 3 + 1, none⟩ (str rn)).setCell ⟨gN, j * 3 + 2, none⟩ (.int .i64 rk)).drew.cell? ⟨ga, 2, none⟩ = some (.int .i64 xk) ∧ (((w6.setCell ⟨gN, j * 3, none⟩ (.int .i64 rl)).setCell ⟨gN, j * 3 + 1, none⟩ (str rn)).setCell ⟨gN, j * 3 + 2, none⟩ (.int .i64 rk)).drew.cell? ⟨gb, 0, none⟩ = some (.int .i64 rl) ∧ (((w6.setCell ⟨gN, j * 3, none⟩ (.int .i64 rl)).setCell ⟨gN, j * 3 + 1, none⟩ (str rn)).setCell ⟨gN, j * 3 + 2, none⟩ (.int .i64 rk)).drew.cell? ⟨gb, 1, none⟩ = some (str rn) ∧ (((w6.setCell ⟨gN, j * 3, none⟩ (.int .i64 rl)).setCell ⟨gN, j * 3 + 1, none⟩ (str rn)).setCell ⟨gN, j * 3 + 2, none⟩ (.int .i64 rk)).drew.cell? ⟨gb, 2, none⟩ = some (.int .i64 rk)) := Hid.mk ⟨Go.Qm.Arr.cell (Go.Qm.Arr.drew Aa6) 0, Go.Qm.Arr.cell (Go.Qm.Arr.drew Aa6) 1, Go.Qm.Arr.cell (Go.Qm.Arr.drew Aa6) 2, Go.Qm.Arr.cell (Go.Qm.Arr.drew Ab6) 0, Go.Qm.Arr.cell (Go.Qm.Arr.drew Ab6) 1, Go.Qm.Arr.cell (Go.Qm.Arr.drew Ab6) 2⟩
                        have HK7 : Hid (((((((w6.setCell ⟨gN, j * 3, none⟩ (.int .i64 rl)).setCell ⟨gN, j * 3 + 1, none⟩ (str rn)).setCell ⟨gN, j * 3 + 2, none⟩ (.int .i64 rk)).setCell ⟨gN, jk * 3, none⟩ (.int .i64 xl)).setCell ⟨gN, jk * 3 + 1, none⟩ (str xr)).setCell ⟨gN, jk * 3 + 2, none⟩ (.int .i64 xk)).drew.cell? ⟨ga, 0, none⟩ = some (.int .i64 xl) ∧ ((((((w6.setCell ⟨gN, j * 3, none⟩ (.int .i64 rl)).setCell ⟨gN, j * 3 + 1, none⟩ (str rn)).setCell ⟨gN, j * 3 + 2, none⟩ (.int .i64 rk)).setCell ⟨gN, jk * 3, none⟩ (.int .i64 xl)).setCell ⟨gN, jk * 3 + 1, none⟩ (str xr)).setCell ⟨gN, jk * 3 + 2, none⟩ (.int .i64 xk)).drew.cell? ⟨ga, 1, none⟩ = some (str xr) ∧ ((((((w6.setCell ⟨gN, j * 3, none⟩ (.int .i64 rl)).setCell ⟨gN, j * 3 + 1, none⟩ (str rn)).setCell ⟨gN, j * 3 + 2, none⟩ (.int .i64 rk)).setCell ⟨gN, jk * 3, none⟩ (.int .i64 xl)).setCell ⟨gN, jk * 3 + 1, none⟩ (str xr)).setCell ⟨gN, jk * 3 + 2, none⟩ (.int .i64 xk)).drew.cell? ⟨ga, 2, none⟩ = some (.int .i64 xk) ∧ ((((((w6.setCell ⟨gN, j * 3, none⟩ (.int .i64 rl)).setCell ⟨gN, j * 3 + 1, none⟩ (str rn)).setCell ⟨gN, j * 3 + 2, none⟩ (.int .i64 rk)).setCell ⟨gN, jk * 3, none⟩ (.int .i64 xl)).setCell ⟨gN, jk * 3 + 1, none⟩ (str xr)).setCell ⟨gN, jk * 3 + 2, none⟩ (.int .i64 xk)).drew.cell? ⟨gb, 0, none⟩ = some (.int .i64 rl) ∧ ((((((w6.setCell ⟨gN, j * 3, none⟩ (.int .i64 rl)).setCell ⟨gN, j * 3 + 1, none⟩ (str rn)).setCell ⟨gN, j * 3 + 2, none⟩ (.int .i64 rk)).setCell ⟨gN, jk * 3, none⟩ (.int .i64 xl)).setCell ⟨gN, jk * 3 + 1, none⟩ (str xr)).setCell ⟨gN, jk * 3 + 2, none⟩ (.int .i64 xk)).drew.cell? ⟨gb, 1, none⟩ = some (str rn) ∧ ((((((w6.setCell ⟨gN, j * 3, none⟩ (.int .i64 rl)).setCell ⟨gN, j * 3 + 1, none⟩ (str rn)).setCell ⟨gN, j * 3 + 2, none⟩ (.int .i64 rk)).setCell ⟨gN, jk * 3, none⟩ (.int .i64 xl)).setCell ⟨gN, jk * 3 + 1, none⟩ (str xr)).setCell ⟨gN, jk * 3 + 2, none⟩ (.int .i64 xk)).drew.cell? ⟨gb, 2, none⟩ = some (.int .i64 rk)) := Hid.mk ⟨Go.Qm.Arr.cell (Go.Qm.Arr.drew Aa7) 0, Go.Qm.Arr.cell (Go.Qm.Arr.drew Aa7) 1, Go.Qm.Arr.cell (Go.Qm.Arr.drew Aa7) 2, Go.Qm.Arr.cell (Go.Qm.Arr.drew Ab7) 0, Go.Qm.Arr.cell (Go.Qm.Arr.drew Ab7) 1, Go.Qm.Arr.cell (Go.Qm.Arr.drew Ab7) 2⟩
                        clear S1 S2 KS AN5 hll hs1 AN Aa Ab Aa5 Ab5 Aa6 Ab6 Aa7 Ab7 G1 G2
                        go_upto_region 14 with fail
                        go_region_held3 (fun w' => w'.cell? ⟨ga, 0, none⟩ = some (.int .i64 xl) ∧ w'.cell? ⟨ga, 1, none⟩ = some (str xr) ∧ w'.cell? ⟨ga, 2, none⟩ = some (.int .i64 xk) ∧ w'.cell? ⟨gb, 0, none⟩ = some (.int .i64 rl) ∧ w'.cell? ⟨gb, 1, none⟩ = some (str rn) ∧ w'.cell? ⟨gb, 2, none⟩ = some (.int .i64 rk))
                          (first | (with_reducible exact HK6.out) | (with_reducible exact HK7.out) | go_keep) (fail)
                        go_wp2_with fail
                        go_roundg (gk - 1)
                        case measure => have := HJJ.out; have := HJK.out; omega
                        case rel => exact ⟨j, by have := HJJ.out; have := HJK.out; omega, by go_num, by have := HEL.out; omega, HS2.out, HKS.out, HGE2.out⟩
                    · have t4 : (xl == rl) = false := by simpa using heq
                      have HGE2 := Hid.mk (HGE.out (by rw [HBF.out]; unfold befB; rw [if_neg heq]; exact decide_eq_false hlt))
                      clear heq
                      have AN5 := AN.keep (Keep.refl wc)
                      have Aa5 := Aa.keep (Keep.refl wc)
                      have Ab5 := Ab.keep (Keep.refl wc)
                      have kb5 := kbc.trans (Keep.refl wc)
                      have x0 := Go.Qm.Arr.cell Aa5 0
                      have x1 := Go.Qm.Arr.cell Aa5 1
                      have x2 := Go.Qm.Arr.cell Aa5 2
                      have y0 := Go.Qm.Arr.cell Ab5 0
                      have y1 := Go.Qm.Arr.cell Ab5 1
                      have y2 := Go.Qm.Arr.cell Ab5 2
                      simp only [List.getElem?_cons_zero, List.getElem?_cons_succ] at x0 x1 x2 y0 y1 y2
                      have hll := hole_len es jk (by have := HEL.out; omega) (⟨rl, rn, rk⟩ : Ent)
                      obtain ⟨u0, hu0⟩ : ∃ u, wc.cell? ⟨gN, j * 3, none⟩ = some u := ⟨_, (arr_get3 AN5 (j := j) (c := 0) (by have := HEL.out; omega) (by omega)).trans rfl⟩
                      obtain ⟨u1, hu1⟩ : ∃ u, wc.cell? ⟨gN, j * 3 + 1, none⟩ = some u := ⟨_, (arr_get3 AN5 (j := j) (c := 1) (by have := HEL.out; omega) (by omega)).trans rfl⟩
                      obtain ⟨u2, hu2⟩ : ∃ u, wc.cell? ⟨gN, j * 3 + 2, none⟩ = some u := ⟨_, (arr_get3 AN5 (j := j) (c := 2) (by have := HEL.out; omega) (by omega)).trans rfl⟩
                      have fz0 := Go.Qm.Arr.frozen AN5 (j * 3)
                      have fz1 := Go.Qm.Arr.frozen AN5 (j * 3 + 1)
                      have fz2 := Go.Qm.Arr.frozen AN5 (j * 3 + 2)
                      have S1 := arr_set3 AN5 (j := j) (by have := HEL.out; omega) (⟨rl, rn, rk⟩ : Ent)
                      simp only at S1
                      have hs1 : ((es.take jk ++ (⟨rl, rn, rk⟩ : Ent) :: es.drop jk).set j ⟨rl, rn, rk⟩).length = es.length + 1 := by rw [List.length_set]; exact hll
                      have S2 := arr_set3 S1 (j := jk) (by have := HEL.out; omega) (⟨xl, xr, xk⟩ : Ent)
                      rw [HSW.out] at S2
                      simp only at S2
                      obtain ⟨v0, hv0⟩ : ∃ u, (((wc.setCell ⟨gN, j * 3, none⟩ (.int .i64 rl)).setCell ⟨gN, j * 3 + 1, none⟩ (str rn)).setCell ⟨gN, j * 3 + 2, none⟩ (.int .i64 rk)).cell? ⟨gN, jk * 3, none⟩ = some u := ⟨_, (arr_get3 S1 (j := jk) (c := 0) (by have := HEL.out; omega) (by omega)).trans rfl⟩
                      obtain ⟨v1, hv1⟩ : ∃ u, (((wc.setCell ⟨gN, j * 3, none⟩ (.int .i64 rl)).setCell ⟨gN, j * 3 + 1, none⟩ (str rn)).setCell ⟨gN, j * 3 + 2, none⟩ (.int .i64 rk)).cell? ⟨gN, jk * 3 + 1, none⟩ = some u := ⟨_, (arr_get3 S1 (j := jk) (c := 1) (by have := HEL.out; omega) (by omega)).trans rfl⟩
                      obtain ⟨v2, hv2⟩ : ∃ u, (((wc.setCell ⟨gN, j * 3, none⟩ (.int .i64 rl)).setCell ⟨gN, j * 3 + 1, none⟩ (str rn)).setCell ⟨gN, j * 3 + 2, none⟩ (.int .i64 rk)).cell? ⟨gN, jk * 3 + 2, none⟩ = some u := ⟨_, (arr_get3 S1 (j := jk) (c := 2) (by have := HEL.out; omega) (by omega)).trans rfl⟩
                      have gz0 := Go.Qm.Arr.frozen S1 (jk * 3)
                      have gz1 := Go.Qm.Arr.frozen S1 (jk * 3 + 1)
                      have gz2 := Go.Qm.Arr.frozen S1 (jk * 3 + 2)
                      have KS := (((((kb5.setCell (p := ⟨gN, j * 3, none⟩) hgN (.int .i64 rl)).setCell (p := ⟨gN, j * 3 + 1, none⟩) hgN (str rn)).setCell (p := ⟨gN, j * 3 + 2, none⟩) hgN (.int .i64 rk)).setCell (p := ⟨gN, jk * 3, none⟩) hgN (.int .i64 xl)).setCell (p := ⟨gN, jk * 3 + 1, none⟩) hgN (str xr)).setCell (p := ⟨gN, jk * 3 + 2, none⟩) hgN (.int .i64 xk)
                      have HS2 := Hid.mk (Go.Qm.Arr.drew S2)
                      have HKS := Hid.mk KS.drew
                      have n1 : ga ≠ gN := HNE.out.1
                      have n2 : gb ≠ gN := HNE.out.2
                      have G1 := grown_set (grown_set (grown_set (grown_refl wc (some gN)) (j * 3) (.int .i64 rl)) (j * 3 + 1) (str rn)) (j * 3 + 2) (.int .i64 rk)
                      have G2 := grown_set (grown_set (grown_set G1 (jk * 3) (.int .i64 xl)) (jk * 3 + 1) (str xr)) (jk * 3 + 2) (.int .i64 xk)
                      have Aa6 := Aa5.kept G1 n1
                      have Ab6 := Ab5.kept G1 n2
                      have Aa7 := Aa5.kept G2 n1
                      have Ab7 := Ab5.kept G2 n2
                      have HK6 : Hid ((((wc.setCell ⟨gN, j * 3, none⟩ (.int .i64 rl)).setCell ⟨gN, j * 3 + 1, none⟩ (str rn)).setCell ⟨gN, j * 3 + 2, none⟩ (.int .i64 rk)).drew.cell? ⟨ga, 0, none⟩ = some (.int .i64 xl) ∧ (((wc.setCell ⟨gN, j * 3, none⟩ (.int .i64 rl)).setCell ⟨gN, j * 3 + 1, none⟩ (str rn)).setCell ⟨gN, j * 3 + 2, none⟩ (.int .i64 rk)).drew.cell? ⟨ga, 1, none⟩ = some (str xr) ∧ (((wc.setCell ⟨gN, j * 3, none⟩ (.int .i64 rl)).setCell ⟨gN, j * 3 + 1, none⟩ (str rn)).setCell ⟨gN, j * 3 + 2, none⟩ (.int .i64 rk)).drew.cell? ⟨ga, 2, none⟩ = some (.int .i64 xk) ∧ (((wc.setCell ⟨gN, j * 3, none⟩ (.int .i64 rl)).setCell ⟨gN, j * 3 + 1, none⟩ (str rn)).setCell ⟨gN, j * 3 + 2, none⟩ (.int .i64 rk)).drew.cell? ⟨gb, 0, none⟩ = some (.int .i64 rl) ∧ (((wc.setCell ⟨gN, j * 3, none⟩ (.int .i64 rl)).setCell ⟨gN, j * 3 + 1, none⟩ (str rn)).setCell ⟨gN, j * 3 + 2, none⟩ (.int .i64 rk)).drew.cell? ⟨gb, 1, none⟩ = some (str rn) ∧ (((wc.setCell ⟨gN, j * 3, none⟩ (.int .i64 rl)).setCell ⟨gN, j * 3 + 1, none⟩ (str rn)).setCell ⟨gN, j * 3 + 2, none⟩ (.int .i64 rk)).drew.cell? ⟨gb, 2, none⟩ = some (.int .i64 rk)) := Hid.mk ⟨Go.Qm.Arr.cell (Go.Qm.Arr.drew Aa6) 0, Go.Qm.Arr.cell (Go.Qm.Arr.drew Aa6) 1, Go.Qm.Arr.cell (Go.Qm.Arr.drew Aa6) 2, Go.Qm.Arr.cell (Go.Qm.Arr.drew Ab6) 0, Go.Qm.Arr.cell (Go.Qm.Arr.drew Ab6) 1, Go.Qm.Arr.cell (Go.Qm.Arr.drew Ab6) 2⟩
                      have HK7 : Hid (((((((wc.setCell ⟨gN, j * 3, none⟩ (.int .i64 rl)).setCell ⟨gN, j * 3 + 1, none⟩ (str rn)).setCell ⟨gN, j * 3 + 2, none⟩ (.int .i64 rk)).setCell ⟨gN, jk * 3, none⟩ (.int .i64 xl)).setCell ⟨gN, jk * 3 + 1, none⟩ (str xr)).setCell ⟨gN, jk * 3 + 2, none⟩ (.int .i64 xk)).drew.cell? ⟨ga, 0, none⟩ = some (.int .i64 xl) ∧ ((((((wc.setCell ⟨gN, j * 3, none⟩ (.int .i64 rl)).setCell ⟨gN, j * 3 + 1, none⟩ (str rn)).setCell ⟨gN, j * 3 + 2, none⟩ (.int .i64 rk)).setCell ⟨gN, jk * 3, none⟩ (.int .i64 xl)).setCell ⟨gN, jk * 3 + 1, none⟩ (str xr)).setCell ⟨gN, jk * 3 + 2, none⟩ (.int .i64 xk)).drew.cell? ⟨ga, 1, none⟩ = some (str xr) ∧ ((((((wc.setCell ⟨gN, j * 3, none⟩ (.int .i64 rl)).setCell ⟨gN, j * 3 + 1, none⟩ (str rn)).setCell ⟨gN, j * 3 + 2, none⟩ (.int .i64 rk)).setCell ⟨gN, jk * 3, none⟩ (.int .i64 xl)).setCell ⟨gN, jk * 3 + 1, none⟩ (str xr)).setCell ⟨gN, jk * 3 + 2, none⟩ (.int .i64 xk)).drew.cell? ⟨ga, 2, none⟩ = some (.int .i64 xk) ∧ ((((((wc.setCell ⟨gN, j * 3, none⟩ (.int .i64 rl)).setCell ⟨gN, j * 3 + 1, none⟩ (str rn)).setCell ⟨gN, j * 3 + 2, none⟩ (.int .i64 rk)).setCell ⟨gN, jk * 3, none⟩ (.int .i64 xl)).setCell ⟨gN, jk * 3 + 1, none⟩ (str xr)).setCell ⟨gN, jk * 3 + 2, none⟩ (.int .i64 xk)).drew.cell? ⟨gb, 0, none⟩ = some (.int .i64 rl) ∧ ((((((wc.setCell ⟨gN, j * 3, none⟩ (.int .i64 rl)).setCell ⟨gN, j * 3 + 1, none⟩ (str rn)).setCell ⟨gN, j * 3 + 2, none⟩ (.int .i64 rk)).setCell ⟨gN, jk * 3, none⟩ (.int .i64 xl)).setCell ⟨gN, jk * 3 + 1, none⟩ (str xr)).setCell ⟨gN, jk * 3 + 2, none⟩ (.int .i64 xk)).drew.cell? ⟨gb, 1, none⟩ = some (str rn) ∧ ((((((wc.setCell ⟨gN, j * 3, none⟩ (.int .i64 rl)).setCell ⟨gN, j * 3 + 1, none⟩ (str rn)).setCell ⟨gN, j * 3 + 2, none⟩ (.int .i64 rk)).setCell ⟨gN, jk * 3, none⟩ (.int .i64 xl)).setCell ⟨gN, jk * 3 + 1, none⟩ (str xr)).setCell ⟨gN, jk * 3 + 2, none⟩ (.int .i64 xk)).drew.cell? ⟨gb, 2, none⟩ = some (.int .i64 rk)) := Hid.mk ⟨Go.Qm.Arr.cell (Go.Qm.Arr.drew Aa7) 0, Go.Qm.Arr.cell (Go.Qm.Arr.drew Aa7) 1, Go.Qm.Arr.cell (Go.Qm.Arr.drew Aa7) 2, Go.Qm.Arr.cell (Go.Qm.Arr.drew Ab7) 0, Go.Qm.Arr.cell (Go.Qm.Arr.drew Ab7) 1, Go.Qm.Arr.cell (Go.Qm.Arr.drew Ab7) 2⟩
                      clear S1 S2 KS AN5 hll hs1 AN Aa Ab Aa5 Ab5 Aa6 Ab6 Aa7 Ab7 G1 G2
                      go_upto_region 14 with fail
                      go_region_held3 (fun w' => w'.cell? ⟨ga, 0, none⟩ = some (.int .i64 xl) ∧ w'.cell? ⟨ga, 1, none⟩ = some (str xr) ∧ w'.cell? ⟨ga, 2, none⟩ = some (.int .i64 xk) ∧ w'.cell? ⟨gb, 0, none⟩ = some (.int .i64 rl) ∧ w'.cell? ⟨gb, 1, none⟩ = some (str rn) ∧ w'.cell? ⟨gb, 2, none⟩ = some (.int .i64 rk))
                        (first | (with_reducible exact HK6.out) | (with_reducible exact HK7.out) | go_keep) (fail)
                      go_wp2_with fail
                      go_roundg (gk - 1)
                      case measure => have := HJJ.out; have := HJK.out; omega
                      case rel => exact ⟨j, by have := HJJ.out; have := HJK.out; omega, by go_num, by have := HEL.out; omega, HS2.out, HKS.out, HGE2.out⟩
          · have t2 : (k' != key) = true := by simpa using hkk
            have t3 : (k' == key) = false := by simpa using hkk
            have HE := Hid.mk (hskip.out (by unfold hitR; rw [hK]; simp [hkk]))
            clear hd hK hkk
            go_wp2_with fail
            go_roundg (gk - 1)
            case measure => have := HI8.out; omega
            case rel => exact ⟨i + 1, _, es, by have := HI8.out; omega, by go_num, rfl, o2, HE.out, kw2⟩
      · have t1 : (rd != d) = true := by simpa using hd
        have HE := Hid.mk (hskip.out (by unfold hitR; simp [hd]))
        clear hd
        rcases hK with ⟨hK, rfl⟩ | ⟨k', hK, rfl⟩
        · clear hK
          go_wp2_with fail
          go_roundg (gk - 1)
          case measure => have := HI8.out; omega
          case rel => exact ⟨i + 1, _, es, by have := HI8.out; omega, by go_num, rfl, o2, HE.out, kw2⟩
        · clear hK
          go_wp2_with fail
          go_roundg (gk - 1)
          case measure => have := HI8.out; omega
          case rel => exact ⟨i + 1, _, es, by have := HI8.out; omega, by go_num, rfl, o2, HE.out, kw2⟩
    · have j1 : ¬ (i : Int) < n := by omega
      have hin2 : i = rows.length := by have := HI8.out; have := HN.out; omega
      have HE : Hid (mbF d key rows = es) := Hid.mk (by rw [HES.out, hin2, HTL.out])
      clear hin2
      go_wp2_with fail
      go_ret
      rw [HE.out]
      exact ⟨_, rfl, oX, kw⟩
end
end Go.Proofs.Qxb6500766a
