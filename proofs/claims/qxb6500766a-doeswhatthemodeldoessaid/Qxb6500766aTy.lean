/- foldindex: drop. -/
import Derived.Test.Qxb6500766aTx
namespace Go.Proofs.Qxb6500766a
open Go.RowKit Go.Qm
set_option linter.unusedVariables false
set_option linter.unusedSimpArgs false
attribute [local go_sem ↓] Go.wp_at_zero Go.wp_at_succ
def shf (es : List Ent) (p q : Nat) : List Ent := (es.eraseIdx p).take q ++ es.drop q
theorem er_len (es : List Ent) {p : Nat} (hp : p < es.length) : (es.eraseIdx p).length + 1 = es.length := by rw [List.length_eraseIdx, if_pos hp]; omega
theorem shf_len (es : List Ent) {p q : Nat} (hp : p < es.length) (hq : q < es.length) : (shf es p q).length = es.length := by
  have := er_len es hp
  unfold shf
  rw [List.length_append, List.length_take, List.length_drop]; omega
theorem shf_start (es : List Ent) {p : Nat} (hp : p < es.length) : shf es p p = es := by
  unfold shf
  rw [List.eraseIdx_eq_take_drop_succ, List.take_append_of_le_length (by rw [List.length_take]; omega), List.take_take, Nat.min_self, List.take_append_drop]
theorem er_get (es : List Ent) {p q : Nat} (hpq : p ≤ q) (hq : q + 1 < es.length) (h : q < (es.eraseIdx p).length) : (es.eraseIdx p)[q] = es[q + 1] := by
  rw [List.getElem_eraseIdx, dif_neg (by omega)]
theorem shf_get (es : List Ent) {p q : Nat} (hp : p < es.length) (hq : q + 1 < es.length) (h : q + 1 < (shf es p q).length) : (shf es p q)[q + 1] = es[q + 1] := by
  have := er_len es hp
  unfold shf at h ⊢
  rw [List.getElem_append_right (by rw [List.length_take]; omega), List.getElem_drop]
  congr 1
  rw [List.length_take]
  omega
theorem shf_set (es : List Ent) {p q : Nat} (hp : p < es.length) (hpq : p ≤ q) (hq : q + 1 < es.length) : (shf es p q).set q es[q + 1] = shf es p (q + 1) := by
  have hl := er_len es hp
  have hqe : q < (es.eraseIdx p).length := by omega
  unfold shf
  rw [List.set_append_right _ _ (by rw [List.length_take]; omega), show q - ((es.eraseIdx p).take q).length = 0 by rw [List.length_take]; omega, List.drop_eq_getElem_cons (show q < es.length by omega), List.set_cons_zero, List.take_succ_eq_append_getElem hqe, er_get es hpq hq hqe, List.append_assoc]
  rfl
theorem shf_end (es : List Ent) {p q : Nat} (hp : p < es.length) (hq : q + 1 = es.length) (y : Ent) : (shf es p q).set q y = es.eraseIdx p ++ [y] := by
  have hl := er_len es hp
  unfold shf
  rw [List.set_append_right _ _ (by rw [List.length_take]; omega), show q - ((es.eraseIdx p).take q).length = 0 by rw [List.length_take]; omega, List.drop_eq_getElem_cons (show q < es.length by omega), List.set_cons_zero, List.take_of_length_le (by omega), List.drop_of_length_le (by omega)]
def DropP (w : World) (B tc g o b i p live dead : Nat) (cs : List Value) (ss : List Slot) (lv : Value) (es : List Ent) (r : Ending) (w' : World) : Prop :=
  r = .returned (.tuple #[]) ∧ Fr (fun q => q = g ∨ q = b ∨ lv.ownBlock = some q) w w' ∧
  ((es.length = 1 ∧ Slots w' b (ss.set i deadS) ∧ Arr w' g tc ((cs.set (o + 1) (.int .i64 ((live - 1 : Nat) : Int))).set (o + 2) (.int .i64 ((dead + 1 : Nat) : Int)))) ∨
   (es.length ≠ 1 ∧ ∃ lv', Slots w' b (ss.set i ⟨1, (sl ss i).hash, (sl ss i).key, lv', es.eraseIdx p⟩) ∧ EntO B w' lv' (es.eraseIdx p) ∧ lv'.ownBlock = lv.ownBlock ∧ (∃ a c d, lv' = .slice a c d) ∧ Arr w' g tc cs))
set_option maxRecDepth 4000 in
set_option maxHeartbeats 4000000 in
theorem drop_c (B tc g o b n i p live dead : Nat) (cs : List Value) (ss : List Slot) (key : List UInt8) (layer : Int) (raw : List UInt8) (w : World) (hAg : Arr w g tc cs) (tb : TabC cs o b n live dead) (hS : Slots w b ss) (hn : n = ss.length) (tv : TV ss) (hk : key.length ≤ 1000000)
    (hi : i < ss.length) (h1 : (sl ss i).st = 1) (hkey : (sl ss i).key = key) (hE : EntO B w (sl ss i).lv (sl ss i).es) (hlen : (sl ss i).es.length ≤ 10000) (hbg : b ≠ g) (hlive : 1 ≤ live ∧ live ≤ 2 ^ 20) (hdead : dead ≤ 2 ^ 20)
    (hlb : ∀ k, (sl ss i).lv.ownBlock = some k → k ≠ b ∧ k ≠ g) (hp : p < (sl ss i).es.length) (hpm : (sl ss i).es[p].layer = layer ∧ (sl ss i).es[p].raw = raw) (hpf : ∀ j (hj : j < (sl ss i).es.length), j < p → ¬ ((sl ss i).es[j].layer = layer ∧ (sl ss i).es[j].raw = raw)) :
    Calls Try.prog 47 #[.pointer (some ⟨g, o, none⟩), str key, .int .i64 layer, str raw] w fun r w' => DropP w B tc g o b i p live dead cs ss (sl ss i).lv (sl ss i).es r w' := by
  obtain ⟨m, hm3, hm20, hmn⟩ := tv.pow
  have hn20 : n ≤ 2 ^ 20 := by rw [hn, hmn]; exact Nat.pow_le_pow_right (by omega) hm20
  have FS : findF ss key (hashB key) = ((i : Int), true) := by
    rcases find_spec tv key with ⟨i', hi', hf, he1, he2⟩ | ⟨j, hj, hfj, -, -, hab⟩
    · have := tv.uniq i' i hi' hi he1 h1 (by rw [he2, hkey])
      subst this
      exact hf
    · exact absurd hkey (hab i hi h1)
  have hc := (hAg.cell o).trans tb.c0
  have hc1 := (hAg.cell (o + 1)).trans tb.c1
  have hc2 := (hAg.cell (o + 2)).trans tb.c2
  have fc1 := hAg.frozen (o + 1)
  have fc2 := hAg.frozen (o + 2)
  have FC := find_c g o b n m ss key (hashB key) w hc hS hn (hn.trans hmn) hm20 (hashB_lt key)
  rw [FS] at FC
  simp only at FC
  obtain ⟨s0, s1, s2, s3⟩ := Slots.at hS i hi
  rw [← sl_eq hi] at s0 s1 s2 s3
  have q0 := Arr.frozen hS (i * 4)
  have q1 := Arr.frozen hS (i * 4 + 1)
  have q2 := Arr.frozen hS (i * 4 + 2)
  have q3 := Arr.frozen hS (i * 4 + 3)
  have hin : (i : Int) < n := by omega
  have HSS : Hid (∀ lv' es', (ss.set i ⟨1, (sl ss i).hash, (sl ss i).key, lv', es'⟩) = ss.set i ⟨(sl ss i).st, (sl ss i).hash, (sl ss i).key, lv', es'⟩) := Hid.mk (fun _ _ => by rw [h1])
  generalize (sl ss i).es = es at *
  generalize (sl ss i).lv = lv at *
  rcases hE.form with ⟨-, h0⟩ | ⟨ge, cap, cur, rfl, hBe, hA, hnc, hcm, hcs, htk⟩
  · rw [h0] at hp; simp at hp
  have hlbe := hlb ge rfl
  have hcur : cur = es.flatMap entC ++ cur.drop (es.length * 3) := by rw [← htk, List.take_append_drop]
  generalize cur.drop (es.length * 3) = R at *
  rw [hcur] at hA
  have HCL : Hid (es.length * 3 + R.length = cap * 3) := Hid.mk (by rw [← hcs, hcur, List.length_append, flat_length entC 3 entC_length])
  obtain ⟨L, hL⟩ : ∃ L, L = es.length := ⟨_, rfl⟩
  rw [← hL] at s3 hlen hnc hp ⊢
  have HL := Hid.mk hL
  have HN := Hid.mk hn
  have HPM := Hid.mk hpm
  have HPF := Hid.mk hpf
  have HE := Hid.mk hE
  unfold maxLen at hcm
  clear hn hmn FS htk hL hcs hE hlb hcur hpm hpf
  go_enter Try.func47, Try.ntmps47
  go_wp2_with fail
  refine (hashKey_c key _ hk).mono ?_
  rintro r w2 ⟨rfl, rfl⟩
  generalize hashB key = hh at *
  go_wp2_with fail
  refine FC.mono ?_
  rintro r w3 ⟨rfl, rfl⟩
  clear FC
  go_wp2_with fail
  go_loopg [11] p (fun gk pv wr => ∃ k : Nat, k + gk = p ∧ pv = .int .i64 k ∧ wr = w3)
  case atStart => exact ⟨0, by omega, rfl, rfl⟩
  case round => as_aux_lemma =>
    obtain ⟨k, hkg, rfl, rfl⟩ := hrel
    have HK := Hid.mk hkg
    have hkL : k < L := by omega
    have hke : k < es.length := by have := HL.out; omega
    have j1 : (k : Int) < L := by omega
    have x0 := arr_get3 hA hke (c := 0) (by omega)
    have x1 := arr_get3 hA hke (c := 1) (by omega)
    rw [Nat.add_zero] at x0
    by_cases hkp : k < p
    · have hnx := HPF.out k hke hkp
      clear hkg
      generalize es[k] = X at *
      obtain ⟨xl, xr, xk⟩ := X
      simp only [entC, List.getElem?_cons_zero, List.getElem?_cons_succ] at x0 x1 hnx
      by_cases hxl : xl = layer
      · have a1 : (xl != layer) = false := by simpa using hxl
        have a2 : (xr == raw) = false := by simpa using (fun a => hnx ⟨hxl, a⟩)
        have a3 : (xr != raw) = true := by simpa using (fun a => hnx ⟨hxl, a⟩)
        clear hxl hnx
        go_wp2_with fail
        go_roundg (p - (k + 1))
        case measure => have := HK.out; omega
        case rel => exact ⟨k + 1, by omega, by go_num, rfl⟩
      · have a1 : (xl != layer) = true := by simpa using hxl
        clear hxl hnx
        go_wp2_with fail
        go_roundg (p - (k + 1))
        case measure => have := HK.out; omega
        case rel => exact ⟨k + 1, by omega, by go_num, rfl⟩
    · have hkk : k = p := by omega
      subst hkk
      have hpx := HPM.out
      clear hkg
      generalize hX : es[k] = X at *
      have HX := Hid.mk hX
      clear hX
      obtain ⟨xl, xr, xk⟩ := X
      simp only [entC, List.getElem?_cons_zero, List.getElem?_cons_succ] at x0 x1 hpx
      obtain ⟨rfl, rfl⟩ := hpx
      have a1 : (xl != xl) = false := by simp
      have a2 : (xr == xr) = true := by simp
      have a3 : (xr != xr) = false := by simp
      have a4 : ((k : Int) == (L : Int)) = false := by simp; omega
      by_cases hL1 : L = 1
      · have b1 : ((L : Int) == 1) = true := by simp; omega
        have HL1 := Hid.mk hL1
        clear hL1
        go_wp2_with fail
        have SF := ((Slots.set4 hS hi deadS).apart (Ne.symm hbg) (o + 1) (.int .i64 ((live : Int) - 1))).apart (Ne.symm hbg) (o + 2) (.int .i64 ((dead : Int) + 1))
        have AF := (((((hAg.apart hbg (i * 4) (.int .u8 2)).apart hbg (i * 4 + 1) (.int .u32 0)).apart hbg (i * 4 + 2) (str [])).apart hbg (i * 4 + 3) (.slice none 0 0)).set (o + 1) (.int .i64 ((live : Int) - 1))).set (o + 2) (.int .i64 ((dead : Int) + 1))
        have P0 : Fr (fun q => q = g ∨ q = b ∨ (Value.slice (some ⟨ge, 0, none⟩) es.length cap).ownBlock = some q) wr wr := Fr.refl _ _
        have P1 := P0.setCell (p := ⟨b, i * 4, none⟩) (Or.inl (Or.inr (Or.inl rfl))) (.int .u8 2)
        have P2 := P1.setCell (p := ⟨b, i * 4 + 1, none⟩) (Or.inl (Or.inr (Or.inl rfl))) (.int .u32 0)
        have P3 := P2.setCell (p := ⟨b, i * 4 + 2, none⟩) (Or.inl (Or.inr (Or.inl rfl))) (str [])
        have P4 := P3.setCell (p := ⟨b, i * 4 + 3, none⟩) (Or.inl (Or.inr (Or.inl rfl))) (.slice none 0 0)
        have P5 := P4.setCell (p := ⟨g, o + 1, none⟩) (Or.inl (Or.inl rfl)) (.int .i64 ((live : Int) - 1))
        have P6 := P5.setCell (p := ⟨g, o + 2, none⟩) (Or.inl (Or.inl rfl)) (.int .i64 ((dead : Int) + 1))
        have el : ((live - 1 : Nat) : Int) = (live : Int) - 1 := by omega
        have ed : ((dead + 1 : Nat) : Int) = (dead : Int) + 1 := by omega
        refine bodyPost_ret (results_none rfl _ _ _) rfl ?_
        refine ⟨rfl, P6, Or.inl ⟨by have := HL.out; have := HL1.out; omega, SF, ?_⟩⟩
        rw [el, ed]
        exact AF
      · have b1 : ((L : Int) == 1) = false := by simp; omega
        have HL1 := Hid.mk hL1
        clear hL1
        have hA0 : Arr wr ge 64 ((shf es k k).flatMap entC ++ R) := by rw [shf_start es (by have := HL.out; omega)]; exact hA
        obtain ⟨W0, hW0⟩ : ∃ W0, W0 = wr := ⟨_, rfl⟩
        subst hW0
        go_wp2_with fail
        clear x0 x1
        go_loopg [12] (L - 1 - k) (fun gq iv wx => ∃ q : Nat, q + gq = L - 1 ∧ k ≤ q ∧ iv = .int .i64 q ∧ Arr wx ge 64 ((shf es k q).flatMap entC ++ R) ∧ Fr (fun z => z = ge) W0 wx)
        case atStart => exact ⟨k, by omega, Nat.le_refl _, rfl, hA0, Fr.refl _ _⟩
        case round => as_aux_lemma =>
          obtain ⟨q, hqg, hkq, rfl, B5, fr⟩ := hrel
          have HQ := Hid.mk hqg
          have hqL : q < L := by omega
          have hLe := HL.out
          have hke2 : k < es.length := by omega
          have hTl := shf_len es hke2 (show q < es.length by omega)
          clear hqg
          by_cases hgt : q + 1 < L
          · have j2 : (q : Int) + 1 < L := by omega
            have hq1 : q + 1 < es.length := by omega
            have hq2 : q + 1 < (shf es k q).length := by omega
            have hq3 : q < (shf es k q).length := by omega
            have x0 := arr_get3 B5 hq2 (c := 0) (by omega)
            have x1 := arr_get3 B5 hq2 (c := 1) (by omega)
            have x2 := arr_get3 B5 hq2 (c := 2) (by omega)
            rw [shf_get es hke2 hq1 hq2] at x0 x1 x2
            have y0 := arr_get3 B5 hq3 (c := 0) (by omega)
            have y1 := arr_get3 B5 hq3 (c := 1) (by omega)
            have y2 := arr_get3 B5 hq3 (c := 2) (by omega)
            rw [Nat.add_zero] at x0 y0
            have f0 := B5.frozen (q * 3)
            have f1 := B5.frozen (q * 3 + 1)
            have f2 := B5.frozen (q * 3 + 2)
            have ST := arr_set3 B5 hq3 es[q + 1]
            rw [shf_set es hke2 hkq hq1] at ST
            have j3 : (q : Int) < L := by omega
            clear B5 hTl hLe
            generalize es[q + 1] = X at *
            generalize (shf es k q)[q] = Y at *
            obtain ⟨zl, zr, zk⟩ := X
            obtain ⟨yl, yr, yk⟩ := Y
            simp only [entC, List.getElem?_cons_zero, List.getElem?_cons_succ] at x0 x1 x2 y0 y1 y2
            go_wp2_with fail
            go_roundg (L - 1 - (q + 1))
            case measure => have := HQ.out; omega
            case rel => exact ⟨q + 1, by omega, by omega, by go_num, ST, ((fr.setCell (Or.inl rfl) _).setCell (Or.inl rfl) _).setCell (Or.inl rfl) _⟩
          · have j2 : ¬ (q : Int) + 1 < L := by omega
            have hqe : L = q + 1 := by omega
            have hq3 : q < (shf es k q).length := by omega
            have y0 := arr_get3 B5 hq3 (c := 0) (by omega)
            have y1 := arr_get3 B5 hq3 (c := 1) (by omega)
            have y2 := arr_get3 B5 hq3 (c := 2) (by omega)
            rw [Nat.add_zero] at y0
            have f0 := B5.frozen (q * 3)
            have f1 := B5.frozen (q * 3 + 1)
            have f2 := B5.frozen (q * 3 + 2)
            have ST := arr_set3 B5 hq3 ent0
            rw [shf_end es hke2 (by omega), List.flatMap_append] at ST
            have hgge : g ≠ ge := fun a => hlbe.2 a.symm
            have hbge : b ≠ ge := fun a => hlbe.1 a.symm
            have AX := fr.arr hgge hAg
            have SX : Slots wr b ss := fr.arr hbge hS
            have c0 := (AX.cell o).trans tb.c0
            obtain ⟨n0, n1, n2, n3⟩ := SX.at i hi
            have fn := Arr.frozen SX (i * 4 + 3)
            have HER : Hid ((es.eraseIdx k).length = q) := Hid.mk (by have := er_len es hke2; omega)
            have HC3 : Hid (q * 3 + (3 + R.length) = cap * 3) := Hid.mk (by have := HCL.out; omega)
            clear hTl n0 n1 n2 hLe B5
            subst hqe
            have j3 : (q : Int) < ((q + 1 : Nat) : Int) := by omega
            have j4 : (q : Int) ≤ cap := by have := HC3.out; omega
            have j5 : (0 : Int) ≤ q := by omega
            generalize (shf es k q)[q] = Y at *
            generalize ss[i].lv = olv at *
            obtain ⟨yl, yr, yk⟩ := Y
            simp only [entC, List.getElem?_cons_zero, List.getElem?_cons_succ] at y0 y1 y2
            go_upto_region 16 with fail
            have A6 : Arr (((wr.setCell ⟨ge, q * 3, none⟩ (.int .i64 0)).setCell ⟨ge, q * 3 + 1, none⟩ (str [])).setCell ⟨ge, q * 3 + 2, none⟩ (.int .i64 0)) ge 64 ((es.eraseIdx k).flatMap entC ++ (entC ent0 ++ R)) := by
              have h := ST
              simp only [List.flatMap_cons, List.flatMap_nil, List.append_nil, List.append_assoc] at h
              exact h
            have S6 := ((SX.apart (Ne.symm hbge) (q * 3) (.int .i64 0)).apart (Ne.symm hbge) (q * 3 + 1) (str [])).apart (Ne.symm hbge) (q * 3 + 2) (.int .i64 0)
            have AG6 := ((AX.apart (Ne.symm hgge) (q * 3) (.int .i64 0)).apart (Ne.symm hgge) (q * 3 + 1) (str [])).apart (Ne.symm hgge) (q * 3 + 2) (.int .i64 0)
            have P0 : Fr (fun z => z = g ∨ z = b ∨ (Value.slice (some ⟨ge, 0, none⟩) es.length cap).ownBlock = some z) W0 wr := fr.mono (fun z _ h => Or.inr (Or.inr (by rw [h]; rfl)))
            have P1 := P0.setCell (p := ⟨ge, q * 3, none⟩) (Or.inl (Or.inr (Or.inr rfl))) (.int .i64 0)
            have P2 := P1.setCell (p := ⟨ge, q * 3 + 1, none⟩) (Or.inl (Or.inr (Or.inr rfl))) (str [])
            have P3 := P2.setCell (p := ⟨ge, q * 3 + 2, none⟩) (Or.inl (Or.inr (Or.inr rfl))) (.int .i64 0)
            clear P0 P1 P2 ST y0 y1 y2 f0 f1 f2 c0 n3 fn
            generalize ((wr.setCell ⟨ge, q * 3, none⟩ (.int .i64 0)).setCell ⟨ge, q * 3 + 1, none⟩ (str [])).setCell ⟨ge, q * 3 + 2, none⟩ (.int .i64 0) = W6 at *
            have c0 := (AG6.cell o).trans tb.c0
            obtain ⟨n0, n1, n2, n3⟩ := S6.at i hi
            have fn := Arr.frozen S6 (i * 4 + 3)
            clear n0 n1 n2
            generalize ss[i].lv = olv2 at *
            have SF := S6.setlv hi (.slice (some ⟨ge, 0, none⟩) q cap) (es.eraseIdx k)
            have AF := AG6.apart hbg (i * 4 + 3) (.slice (some ⟨ge, 0, none⟩) q cap)
            have EF := ent_of_arr (n := q) hBe (Arr.apart A6 hbge (i * 4 + 3) (.slice (some ⟨ge, 0, none⟩) q cap)) HER.out.symm (by rw [List.length_append, entC_length]; exact HC3.out) hcm
            have PF := (P3.setCell (p := ⟨b, i * 4 + 3, none⟩) (Or.inl (Or.inr (Or.inl rfl))) (.slice (some ⟨ge, 0, none⟩) q cap)).trans (Fr.keep (Keep.refl _).drew)
            go_region
            go_wp2_with fail
            go_end0
            refine ⟨rfl, PF, Or.inr ⟨by have := HL.out; have := HL1.out; omega, .slice (some ⟨ge, 0, none⟩) q cap, ?_, EF, rfl, ⟨_, _, _, rfl⟩, AF⟩⟩
            rw [HSS.out]
            exact SF
end Go.Proofs.Qxb6500766a
