/- foldindex: put, the key is new. -/
import Derived.Test.Qxb6500766aTs
namespace Go.Proofs.Qxb6500766a
open Go.RowKit Go.Qm
set_option linter.unusedVariables false
set_option linter.unusedSimpArgs false
attribute [local go_sem ↓] Go.wp_at_zero Go.wp_at_succ
set_option maxRecDepth 4000 in
set_option maxHeartbeats 4000000 in
theorem put_new_c (B tc g o b n live dead tS gS so : Nat) (cs cS : List Value) (ss : List Slot) (key : List UInt8) (e : Ent) (w : World) (A : Arr w g tc cs) (AS : Arr w gS tS cS) (hsame : g = gS → o + 3 ≤ so ∧ cs = cS) (tc' : TabC cs o b n live dead) (sc : StatC cS so)
    (hS : Slots w b ss) (hbg : b ≠ g) (hbS : b ≠ gS) (hn : n = ss.length) (tv : TV ss) (hl : live = (LiveL ss).length) (hd : dead = deadN ss) (hlb : live ≤ 5000) (hlv : ∀ s ∈ ss, ∃ a i j, s.lv = .slice a i j)
    (habs : ∀ i, i < ss.length → (sl ss i).st = 1 → (sl ss i).key ≠ key) (hk : key.length ≤ 1000000) :
    Calls Try.prog 46 #[.pointer (some ⟨g, o, none⟩), str key, .agg (entC e).toArray, .pointer (some ⟨gS, so, none⟩)] w fun r w' => PutN w g o tc gS so tS cs cS b ss key e r w' := by
  obtain ⟨el, er, ek⟩ := e
  unfold entC
  simp only
  obtain ⟨x3, x4, x5, y3, y4, y5⟩ := sc
  obtain ⟨t0, t1, t2⟩ := tc'
  have hn20 : n ≤ 2 ^ 20 := by
    obtain ⟨m, _, h20, e⟩ := tv.pow
    rw [hn, e]; exact Nat.pow_le_pow_right (by omega) h20
  have hroom := tv.room
  have hld : 4 * (live + dead) ≤ 3 * n := by rw [hl, hd, hn]; exact hroom
  obtain ⟨m, hm3, hm20, hmn⟩ := tv.pow
  rcases find_spec tv key with ⟨i, hi, -, he1, he2⟩ | ⟨j, hj, hfj, hjs, hjp, -⟩
  · exact absurd he2 (habs i hi he1)
  have K1 := (Keep.refl w).alloc (.cells #[.int .i64 el, str er, .int .i64 ek] 64)
  have E1 := Arr.new w 64 [.int .i64 el, str er, .int .i64 ek]
  have A1 := A.keep K1
  have AS1 := AS.keep K1
  have S1 := hS.keep K1
  have gl := A.lt
  have gSl := AS.lt
  have bl := Arr.lt hS
  have HN := Hid.mk hn
  have HMN := Hid.mk hmn
  have HL := Hid.mk hl
  have HD := Hid.mk hd
  have HSAME := Hid.mk hsame
  have hjn : j < n := by omega
  clear hn hmn hl hd hsame hroom
  go_enter Try.func46, Try.ntmps46
  go_wp2_with fail
  generalize w.alloc (.cells #[.int .i64 el, str er, .int .i64 ek] 64) = w1 at *
  refine (hashKey_c key _ hk).mono ?_
  rintro r w2 ⟨rfl, rfl⟩
  have a0 := (A1.cell o).trans t0
  have a1 := (A1.cell (o + 1)).trans t1
  have a2 := (A1.cell (o + 2)).trans t2
  have FC := find_c g o b n m ss key (hashB key) w2 a0 S1 HN.out (HN.out.trans HMN.out) hm20 (hashB_lt key)
  rw [hfj] at FC
  simp only at FC
  generalize hhe : hashB key = hh at *
  have HHH := Hid.mk hhe
  clear hhe
  go_wp2_with fail
  refine FC.mono ?_
  rintro r w3 ⟨rfl, rfl⟩
  have CW := crowded_c g o b n live dead w3 a0 a1 a2 hn20 (by omega) (by omega)
  clear FC
  go_wp2_with fail
  refine CW.mono ?_
  rintro r w4 ⟨rfl, k4⟩
  have K4 := K1.trans k4
  have BA : Bas w g o tc gS so tS cs cS b w.heap.size [.int .i64 el, str er, .int .i64 ek] w4 b n live dead cs cS ss :=
    ⟨A1.keep k4, AS1.keep k4, ⟨t0, t1, t2⟩, ⟨x3, x4, x5, y3, y4, y5⟩, SameOff.refl _ _ _ _ _, fun _ => ⟨rfl, fun _ _ _ _ => rfl⟩, fun h => ⟨(HSAME.out h).2, (HSAME.out h).1⟩, S1.keep k4, hbg, hbS, Or.inl rfl, Fr.keep K4, E1.keep k4, Nat.le_refl _, gl, gSl, by omega⟩
  clear CW a0 a1 a2 A1 AS1 S1 E1 K1 k4 K4
  generalize hge : w.heap.size = ge at *
  have HGE := Hid.mk hge
  clear hge
  obtain ⟨cr, hcr⟩ : ∃ c, c = decide ((live + dead + 1) * 4 > n * 3) := ⟨_, rfl⟩
  rw [← hcr]
  have HCR := Hid.mk hcr
  clear hcr
  go_upto_if 26 with fail
  go_cut [9] from 14 to 178 (fun jv wx => ∃ b' n' live' dead' j' cs' cS' ss', jv = .int .i64 ((j' : Nat) : Int) ∧ live' = (LiveL ss').length ∧ dead' = deadN ss' ∧ n' = ss'.length ∧ TV ss' ∧ (LiveL ss').Perm (LiveL ss) ∧ ((sl ss' j').st = 0 → 4 * (live' + dead' + 1) ≤ 3 * n') ∧ j' < ss'.length ∧ (sl ss' j').st ≠ 1 ∧ Path ss' hh.toNat j' ∧ Bas w g o tc gS so tS cs cS b ge [.int .i64 el, str er, .int .i64 ek] wx b' n' live' dead' cs' cS' ss')
  case first => as_aux_lemma =>
    cases cr with
    | false =>
      have hc := HCR.out
      go_wp2_with fail
      go_meet
      case rel =>
        refine ⟨b, n, live, dead, j, cs, cS, ss, rfl, HL.out, HD.out, HN.out, tv, List.Perm.refl _, fun _ => ?_, hj, hjs, hjp, BA⟩
        have := of_decide_eq_false hc.symm
        omega
    | true =>
      have RC := rehash_c tc g o b n live dead cs ss w4 BA.A t0 t1 t2 BA.S HN.out tv HL.out (by omega) hlv
      go_wp2_with fail
      refine RC.mono ?_
      rintro r w5 ⟨b', n', ss', gr, rfl, hn', hb', S5, tv', pm', dn', hrm, A5, gr5⟩
      obtain ⟨cs5, cS5, B5⟩ := BA.rehash hb' S5 A5 gr5
      obtain ⟨z3, z4, z5, u3, u4, u5⟩ := B5.SC
      have s3 := (B5.AS.cell (so + 3)).trans u3
      have s4 := (B5.AS.cell (so + 4)).trans u4
      have f3 := B5.AS.frozen (so + 3)
      have f4 := B5.AS.frozen (so + 4)
      obtain ⟨m', hm3', hm20', hmn'⟩ := tv'.pow
      have FS : ∃ j', j' < ss'.length ∧ findF ss' key hh = ((j' : Int), false) ∧ (sl ss' j').st ≠ 1 ∧ Path ss' hh.toNat j' := by
        rcases find_spec tv' key with ⟨i, hi, -, he1, he2⟩ | ⟨j', hj', hfj', hjs', hjp', -⟩
        · exact absurd he2 (absent_perm pm' habs i hi he1)
        · rw [HHH.out] at hfj' hjp'
          exact ⟨j', hj', hfj', hjs', hjp'⟩
      obtain ⟨j', hj', hfj', hjs', hjp'⟩ := FS
      have FC := fun W cs' cS' (h : Bas w g o tc gS so tS cs cS b ge [.int .i64 el, str er, .int .i64 ek] W b' n' live 0 cs' cS' ss') => find_c g o b' n' m' ss' key hh W ((h.A.cell o).trans h.T.c0) h.S hn' (hn'.trans hmn') hm20' (by rw [← HHH.out]; exact hashB_lt key)
      rw [hfj'] at FC
      simp only at FC
      have HF := Hid.mk FC
      have HN' := Hid.mk hn'
      have HPL : Hid (live = (LiveL ss').length) := Hid.mk (by rw [HL.out]; exact pm'.length_eq.symm)
      have HDN := Hid.mk dn'
      clear FC hn' hmn' hfj' dn' A5 S5
      cases gr with
      | true =>
        obtain ⟨cs6, cS6, B6⟩ := B5.stat 3 (Or.inl rfl) (wrap64 (z3 + 1))
        have FC := HF.out _ _ _ B6
        go_wp2_with fail
        refine FC.mono ?_
        rintro r w6 ⟨rfl, rfl⟩
        go_wp2_with fail
        go_meet
        case rel => exact ⟨b', n', live, 0, j', cs6, cS6, ss', rfl, HPL.out, HDN.out.symm, HN'.out, tv', pm', fun _ => by omega, hj', hjs', hjp', B6⟩
      | false =>
        obtain ⟨cs6, cS6, B6⟩ := B5.stat 4 (Or.inr (Or.inl rfl)) (wrap64 (z4 + 1))
        have FC := HF.out _ _ _ B6
        go_wp2_with fail
        refine FC.mono ?_
        rintro r w6 ⟨rfl, rfl⟩
        go_wp2_with fail
        go_meet
        case rel => exact ⟨b', n', live, 0, j', cs6, cS6, ss', rfl, HPL.out, HDN.out.symm, HN'.out, tv', pm', fun _ => by omega, hj', hjs', hjp', B6⟩
  case rest =>
    obtain ⟨b', n', live', dead', j', cs7, cS7, ss', rfl, hl', hd', hn', tv', pm', hrm, hj', hjs', hjp', BB⟩ := hcut
    have HL' := Hid.mk hl'
    have HD' := Hid.mk hd'
    have HN' := Hid.mk hn'
    have HPM := Hid.mk pm'
    clear hl' hd' hn' pm'
    have hn20' : n' ≤ 2 ^ 20 := by
      obtain ⟨m, _, h20, e⟩ := tv'.pow
      rw [HN'.out, e]; exact Nat.pow_le_pow_right (by omega) h20
    have hjn' : j' < n' := by have := HN'.out; omega
    have j1 : (j' : Int) < n' := by omega
    have PUT := fun lv => tv'.put hj' hjs' (x := ⟨1, hh, key, lv, [⟨el, er, ek⟩]⟩) rfl HHH.out.symm (by simp only; rw [HHH.out]; exact hjp') (absent_perm HPM.out habs) (fun h => by have a := hrm h; have b := HL'.out; have c := HD'.out; have d := HN'.out; omega)
    have HP1 := Hid.mk (fun lv => (PUT lv).1)
    have HP2 := Hid.mk (fun lv => (PUT lv).2.1)
    have HP3 := Hid.mk (fun lv => (PUT lv).2.2)
    have hdn' : dead' ≤ 2 ^ 20 := by have a := tv'.room; have b := HD'.out; have c := HN'.out; omega
    clear PUT BA
    have b0 := (BB.A.cell o).trans BB.T.c0
    obtain ⟨n0, n1, n2, n3⟩ := BB.S.at j' hj'
    rw [← sl_eq hj'] at n0
    by_cases hj2 : (sl ss' j').st = 2
    · have tt : ((((sl ss' j').st : Nat) : Int) == 2) = true := by simp; omega
      have HJ2 := Hid.mk hj2
      have hd1 : 1 ≤ dead' := by have a := HP3.out (.slice none 0 0); have b := HD'.out; rw [if_pos hj2] at a; omega
      have b2 := (BB.A.cell (o + 2)).trans BB.T.c2
      have fb2 := BB.A.frozen (o + 2)
      obtain ⟨cs9, cS9, B9⟩ := BB.count 2 (dead' - 1) live' (dead' - 1) (Or.inr ⟨rfl, rfl, rfl⟩)
      obtain ⟨z3, z4, z5, u3, u4, u5⟩ := B9.SC
      have s5 := (B9.AS.cell (so + 5)).trans u5
      have fs5 := B9.AS.frozen (so + 5)
      obtain ⟨cs10, cS10, B10⟩ := B9.stat 5 (Or.inr (Or.inr rfl)) (wrap64 (z5 + 1))
      have yd : IntKind.i64.wrap ((dead' : Int) - 1) = ((dead' - 1 : Nat) : Int) := by rw [IntKind.wrap_i64] <;> omega
      clear hj2
      go_upto_region 12 with fail
      generalize hWW : (wc.setCell ⟨g, o + 2, none⟩ (.int .i64 ((dead' - 1 : Nat) : Int))).setCell ⟨gS, so + 5, none⟩ (.int .i64 (wrap64 (z5 + 1))) = W at *
      have BB := B10
      clear B10 B9 b0 n0 n1 n2 n3 b2 fb2 s5 fs5 u3 u4 u5
      have k5 := (Keep.refl W).alloc (.cells #[.int .i64 el, str er, .int .i64 ek] 64)
      have BB5 := BB.keep k5
      obtain ⟨n0, n1, n2, n3⟩ := BB.S.at j' hj'
      rw [← sl_eq hj'] at n0 n1 n2 n3
      have q0 := Arr.frozen BB.S (j' * 4)
      have q1 := Arr.frozen BB.S (j' * 4 + 1)
      have q2 := Arr.frozen BB.S (j' * 4 + 2)
      have q3 := Arr.frozen BB.S (j' * 4 + 3)
      have e0 := BB.E.cell 0
      have e1 := BB.E.cell 1
      have e2 := BB.E.cell 2
      have b0 := (BB.A.cell o).trans BB.T.c0
      obtain ⟨p0, p1, p2, p3⟩ := BB5.S.at j' hj'
      rw [← sl_eq hj'] at p0 p1 p2 p3
      have r0 := Arr.frozen BB5.S (j' * 4)
      have r1 := Arr.frozen BB5.S (j' * 4 + 1)
      have r2 := Arr.frozen BB5.S (j' * 4 + 2)
      have r3 := Arr.frozen BB5.S (j' * 4 + 3)
      have d0 := (BB5.A.cell o).trans BB5.T.c0
      have g0 := BB5.E.cell 0
      have g1 := BB5.E.cell 1
      have g2 := BB5.E.cell 2
      simp only [List.getElem?_cons_zero, List.getElem?_cons_succ] at g0 g1 g2 e0 e1 e2
      have ow : (W.alloc (.cells #[.int .i64 el, str er, .int .i64 ek] 64)).ownsRow w.heap.size 64 3 (.slice (some ⟨W.heap.size, 0, none⟩) 1 1) 1 [.int .i64 el, str er, .int .i64 ek] :=
        World.ownsRow_lit (base := w.heap.size) (e := 64) (size := 3) W #[.int .i64 el, str er, .int .i64 ek] 1 BB.fr.size (by simp [maxLen]) (by simp)
      have BB6 := (BB5.slot hj' ⟨1, hh, key, .slice (some ⟨W.heap.size, 0, none⟩) 1 1, [⟨el, er, ek⟩]⟩).keep ((Keep.refl _).drew)
      have hbW : b' ≠ W.heap.size := by have := Arr.lt BB.S; omega
      have hgW : g ≠ W.heap.size := by have := BB.A.lt; omega
      have ow6 := ((((ow.kept (grown_set (grown_set (grown_set (grown_set (grown_refl _ (some b')) (j' * 4) (.int .u8 1)) (j' * 4 + 1) (.int .u32 hh)) (j' * 4 + 2) (str key)) (j' * 4 + 3) (.slice (some ⟨W.heap.size, 0, none⟩) 1 1)) (Or.inr (by simp [Value.ownBlock]; omega))))))
      go_region
      generalize hW6 : ((((((W.alloc (.cells #[.int .i64 el, str er, .int .i64 ek] 64)).setCell ⟨b', j' * 4, none⟩ (.int .u8 1)).setCell ⟨b', j' * 4 + 1, none⟩ (.int .u32 hh)).setCell ⟨b', j' * 4 + 2, none⟩ (str key)).setCell ⟨b', j' * 4 + 3, none⟩ (.slice (some ⟨W.heap.size, 0, none⟩) 1 1)).drew) = W6 at *
      have ow7 : W6.ownsRow w.heap.size 64 3 (.slice (some ⟨W.heap.size, 0, none⟩) 1 1) 1 [.int .i64 el, str er, .int .i64 ek] := by rw [← hW6]; exact ow6
      have BB7 : Bas w g o tc gS so tS cs cS b ge [.int .i64 el, str er, .int .i64 ek] W6 b' n' live' (dead' - 1) cs10 cS10 (ss'.set j' ⟨1, hh, key, .slice (some ⟨W.heap.size, 0, none⟩) 1 1, [⟨el, er, ek⟩]⟩) := by first | exact BB6 | (rw [← hW6]; exact BB6)
      clear hW6 BB6 BB5 BB n0 n1 n2 n3 q0 q1 q2 q3 e0 e1 e2 b0 p0 p1 p2 p3 r0 r1 r2 r3 d0 g0 g1 g2 k5 ow ow6
      have l1 := (BB7.A.cell (o + 1)).trans BB7.T.c1
      have f1 := BB7.A.frozen (o + 1)
      obtain ⟨cs8, cS8, BB8⟩ := BB7.count 1 (live' + 1) (live' + 1) (dead' - 1) (Or.inl ⟨rfl, rfl, rfl⟩)
      have ow8 := ow7.kept (grown_set (grown_refl W6 (some g)) (o + 1) (.int .i64 ((live' + 1 : Nat) : Int))) (Or.inr (by simp [Value.ownBlock]; omega))
      rw [Int.natCast_add, Int.natCast_one] at BB8 ow8
      have hlb' : live' ≤ 5000 := by have a := HL'.out; have b := HPM.out.length_eq; have c := HL.out; omega
      go_wp2_with fail
      refine bodyPost_ret (results_none rfl _ _ _) rfl ?_
      refine ⟨b', n', live' + 1, (dead' - 1), _, _, cs8, cS8, rfl, BB8.A, BB8.AS, BB8.T, BB8.SC, BB8.sm, BB8.sS, by rw [List.length_set]; exact HN'.out, BB8.S, HP1.out _, ?_, ?_, ?_, ow8, ⟨_, _, _, rfl⟩, BB8.bb, BB8.bg, BB8.bS, BB8.fr⟩
      · rw [(HP2.out _).length_eq, List.length_cons, ← HL'.out]
      · have a := HP3.out (.slice (some ⟨W.heap.size, 0, none⟩) 1 1); have b := HD'.out; rw [if_pos HJ2.out] at a; omega
      · rw [HHH.out]; exact (HP2.out _).trans (List.Perm.cons _ HPM.out)
    · have tt : ((((sl ss' j').st : Nat) : Int) == 2) = false := by simp; omega
      have HJ2 := Hid.mk hj2
      clear hj2
      go_upto_region 12 with fail
      generalize hWW : wc = W at *
      clear n0 n1 n2 n3 b0
      have k5 := (Keep.refl W).alloc (.cells #[.int .i64 el, str er, .int .i64 ek] 64)
      have BB5 := BB.keep k5
      obtain ⟨n0, n1, n2, n3⟩ := BB.S.at j' hj'
      rw [← sl_eq hj'] at n0 n1 n2 n3
      have q0 := Arr.frozen BB.S (j' * 4)
      have q1 := Arr.frozen BB.S (j' * 4 + 1)
      have q2 := Arr.frozen BB.S (j' * 4 + 2)
      have q3 := Arr.frozen BB.S (j' * 4 + 3)
      have e0 := BB.E.cell 0
      have e1 := BB.E.cell 1
      have e2 := BB.E.cell 2
      have b0 := (BB.A.cell o).trans BB.T.c0
      obtain ⟨p0, p1, p2, p3⟩ := BB5.S.at j' hj'
      rw [← sl_eq hj'] at p0 p1 p2 p3
      have r0 := Arr.frozen BB5.S (j' * 4)
      have r1 := Arr.frozen BB5.S (j' * 4 + 1)
      have r2 := Arr.frozen BB5.S (j' * 4 + 2)
      have r3 := Arr.frozen BB5.S (j' * 4 + 3)
      have d0 := (BB5.A.cell o).trans BB5.T.c0
      have g0 := BB5.E.cell 0
      have g1 := BB5.E.cell 1
      have g2 := BB5.E.cell 2
      simp only [List.getElem?_cons_zero, List.getElem?_cons_succ] at g0 g1 g2 e0 e1 e2
      have ow : (W.alloc (.cells #[.int .i64 el, str er, .int .i64 ek] 64)).ownsRow w.heap.size 64 3 (.slice (some ⟨W.heap.size, 0, none⟩) 1 1) 1 [.int .i64 el, str er, .int .i64 ek] :=
        World.ownsRow_lit (base := w.heap.size) (e := 64) (size := 3) W #[.int .i64 el, str er, .int .i64 ek] 1 BB.fr.size (by simp [maxLen]) (by simp)
      have BB6 := (BB5.slot hj' ⟨1, hh, key, .slice (some ⟨W.heap.size, 0, none⟩) 1 1, [⟨el, er, ek⟩]⟩).keep ((Keep.refl _).drew)
      have hbW : b' ≠ W.heap.size := by have := Arr.lt BB.S; omega
      have hgW : g ≠ W.heap.size := by have := BB.A.lt; omega
      have ow6 := ((((ow.kept (grown_set (grown_set (grown_set (grown_set (grown_refl _ (some b')) (j' * 4) (.int .u8 1)) (j' * 4 + 1) (.int .u32 hh)) (j' * 4 + 2) (str key)) (j' * 4 + 3) (.slice (some ⟨W.heap.size, 0, none⟩) 1 1)) (Or.inr (by simp [Value.ownBlock]; omega))))))
      go_region
      generalize hW6 : ((((((W.alloc (.cells #[.int .i64 el, str er, .int .i64 ek] 64)).setCell ⟨b', j' * 4, none⟩ (.int .u8 1)).setCell ⟨b', j' * 4 + 1, none⟩ (.int .u32 hh)).setCell ⟨b', j' * 4 + 2, none⟩ (str key)).setCell ⟨b', j' * 4 + 3, none⟩ (.slice (some ⟨W.heap.size, 0, none⟩) 1 1)).drew) = W6 at *
      have ow7 : W6.ownsRow w.heap.size 64 3 (.slice (some ⟨W.heap.size, 0, none⟩) 1 1) 1 [.int .i64 el, str er, .int .i64 ek] := by rw [← hW6]; exact ow6
      have BB7 : Bas w g o tc gS so tS cs cS b ge [.int .i64 el, str er, .int .i64 ek] W6 b' n' live' dead' cs7 cS7 (ss'.set j' ⟨1, hh, key, .slice (some ⟨W.heap.size, 0, none⟩) 1 1, [⟨el, er, ek⟩]⟩) := by first | exact BB6 | (rw [← hW6]; exact BB6)
      clear hW6 BB6 BB5 BB n0 n1 n2 n3 q0 q1 q2 q3 e0 e1 e2 b0 p0 p1 p2 p3 r0 r1 r2 r3 d0 g0 g1 g2 k5 ow ow6
      have l1 := (BB7.A.cell (o + 1)).trans BB7.T.c1
      have f1 := BB7.A.frozen (o + 1)
      obtain ⟨cs8, cS8, BB8⟩ := BB7.count 1 (live' + 1) (live' + 1) dead' (Or.inl ⟨rfl, rfl, rfl⟩)
      have ow8 := ow7.kept (grown_set (grown_refl W6 (some g)) (o + 1) (.int .i64 ((live' + 1 : Nat) : Int))) (Or.inr (by simp [Value.ownBlock]; omega))
      rw [Int.natCast_add, Int.natCast_one] at BB8 ow8
      have hlb' : live' ≤ 5000 := by have a := HL'.out; have b := HPM.out.length_eq; have c := HL.out; omega
      go_wp2_with fail
      refine bodyPost_ret (results_none rfl _ _ _) rfl ?_
      refine ⟨b', n', live' + 1, dead', _, _, cs8, cS8, rfl, BB8.A, BB8.AS, BB8.T, BB8.SC, BB8.sm, BB8.sS, by rw [List.length_set]; exact HN'.out, BB8.S, HP1.out _, ?_, ?_, ?_, ow8, ⟨_, _, _, rfl⟩, BB8.bb, BB8.bg, BB8.bS, BB8.fr⟩
      · rw [(HP2.out _).length_eq, List.length_cons, ← HL'.out]
      · have a := HP3.out (.slice (some ⟨W.heap.size, 0, none⟩) 1 1); have b := HD'.out; rw [if_neg HJ2.out] at a; omega
      · rw [HHH.out]; exact (HP2.out _).trans (List.Perm.cons _ HPM.out)
end Go.Proofs.Qxb6500766a
