/- unionvfsm: close. -/
import Derived.Test.Qxb6500767aNe
namespace Go.Proofs.Qxb6500767a
open Go.RowKit Go.Qm
set_option linter.unusedVariables false
set_option linter.unusedSimpArgs false
attribute [local go_sem ↓] Go.wp_at_zero Go.wp_at_succ
theorem inf91 : (Try.prog.info? 91).map (fun i => (i.zero, i.size, i.bytes)) = some (some (.agg (mopC (0, hd0)).toArray), 7, 48) := by kernel_rfl
theorem mopC_one (x : Nat × Hd) : ∀ u ∈ mopC x, u.oneCell' = true := by
  intro u hu
  simp only [mopC, List.mem_cons, List.not_mem_nil, or_false] at hu
  rcases hu with rfl | rfl | rfl | rfl | rfl | rfl | rfl <;> rfl
section
variable {B gm gt : Nat} {fp : Nat → Prop} {y wr : World} {s : Stt} {O O' : List Nat} {ov rv : Value} {u' : Nat} {hs' : List Hd}
/-- The list of opens is another one. -/
theorem MW.swap (h : MW B fp y gm gt s O ov) (f : Fr (fun q => ov.ownBlock = some q) y wr) (ow : OwnS mopC 7 91 B wr rv (rowsOf hs' O')) (hq : ∀ q, rv.ownBlock = some q → ov.ownBlock = some q ∨ y.heap.size ≤ q) (r : OR u' hs' O') :
    MW B fp (wr.setCell ⟨gm, 1, none⟩ rv) gm gt ⟨u', hs', s.T⟩ O' rv ∧ Stp (fpM fp gm ov) (fpM fp gm rv) y (wr.setCell ⟨gm, 1, none⟩ rv) := by
  have hlt := h.arr.lt
  have nv : ∀ q, rv.ownBlock = some q → ¬ fp q ∧ q ≠ gm := fun q hh => by
    rcases hq q hh with a | a
    · exact h.nov q a
    · exact ⟨fun b => by have := (h.tree.own b).2; omega, by omega⟩
  have k : Fr (fun q => q = gm) wr (wr.setCell ⟨gm, 1, none⟩ rv) := Fr.setCell (p := ⟨gm, 1, none⟩) (Fr.refl (fun q => q = gm) wr) (Or.inl rfl) rv
  have hA := f.arr (fun e => (h.nov gm e).2 rfl) h.arr
  refine ⟨⟨(h.tree.fr f (fun q a e => (h.nov q e).1 a)).fr k (fun q a e => h.nfp (by rw [← e]; exact a)), hA.set 1 rv, ow.fr k (fun q hh e => (nv q hh).2 e), r, h.nfp, nv, h.lo⟩, ?_, ?_⟩
  · exact (f.mono (fun q _ a => Or.inr (Or.inr a))).trans (k.mono (fun q _ a => Or.inr (Or.inl a)))
  · intro q a
    rcases a with a | a | a
    · exact Or.inl (Or.inl a)
    · exact Or.inl (Or.inr (Or.inl a))
    · rcases hq q a with b | b
      · exact Or.inl (Or.inr (Or.inr b))
      · exact Or.inr b
end
theorem erase_at {O : List Nat} {i k : Nat} (hk : k < O.length) (e : k = i) : (O.take (k + 1)).eraseIdx i = (O.take k).eraseIdx i := by
  subst e
  have e1 : (O.take k).eraseIdx k = O.take k := List.eraseIdx_of_length_le (by rw [List.length_take]; omega)
  rw [e1, List.take_succ_eq_append_getElem hk, List.eraseIdx_append_of_length_le (by rw [List.length_take]; omega), List.length_take, Nat.min_eq_left (by omega), Nat.sub_self]
  simp
theorem erase_ne {O : List Nat} {i k : Nat} (hk : k < O.length) (e : k ≠ i) : (O.take (k + 1)).eraseIdx i = (O.take k).eraseIdx i ++ [O[k]] := by
  rw [List.take_succ_eq_append_getElem hk]
  rcases Nat.lt_or_ge i k with a | a
  · rw [List.eraseIdx_append_of_lt_length (by rw [List.length_take]; omega)]
  · rw [List.eraseIdx_append_of_length_le (by rw [List.length_take]; omega), List.length_take, Nat.min_eq_left (by omega)]
    have : i - k ≠ 0 := by omega
    obtain ⟨m, hm⟩ : ∃ m, i - k = m + 1 := ⟨i - k - 1, by omega⟩
    have e1 : (O.take k).eraseIdx i = O.take k := List.eraseIdx_of_length_le (by rw [List.length_take]; omega)
    rw [e1, hm]
    rfl
theorem OR.close {u : Nat} {hs : List Hd} {O : List Nat} (r : OR u hs O) {i : Nat} (hi : i < O.length) (x : Hd) : OR (clr u O[i]) (hs.set O[i] x) (O.eraseIdx i) := by
  obtain ⟨h1, h2⟩ := (r.mem _).1 (List.getElem_mem hi)
  refine ⟨r.nd.sublist (List.eraseIdx_sublist _ _), fun n => ?_, by simpa using r.hl⟩
  have hm : n ∈ O.eraseIdx i ↔ n ∈ O ∧ n ≠ O[i] := by
    rw [List.mem_eraseIdx_iff_getElem]
    constructor
    · rintro ⟨j, hj, hne, rfl⟩
      exact ⟨List.getElem_mem _, fun e => hne ((List.getElem_inj r.nd).1 e)⟩
    · rintro ⟨a, b⟩
      obtain ⟨j, hj, rfl⟩ := List.mem_iff_getElem.1 a
      exact ⟨j, hj, fun e => b (by subst e; rfl), rfl⟩
  rw [hm, r.mem]
  constructor
  · rintro ⟨⟨a, b⟩, c⟩
    exact ⟨a, by rw [clr_bit h1 a, b]; simp [Ne.symm c]⟩
  · rintro ⟨a, b⟩
    rw [clr_bit h1 a] at b
    simp only [Bool.and_eq_true, Bool.not_eq_true', decide_eq_false_iff_not] at b
    exact ⟨⟨a, b.1⟩, Ne.symm b.2⟩
theorem rows_close {u : Nat} {hs : List Hd} {O : List Nat} (r : OR u hs O) {i : Nat} (hi : i < O.length) (x : Hd) : rowsOf (hs.set O[i] x) (O.eraseIdx i) = rowsOf hs (O.eraseIdx i) := by
  unfold rowsOf
  apply List.map_congr_left
  intro n hn
  rw [hat_set_ne]
  rw [List.mem_eraseIdx_iff_getElem] at hn
  obtain ⟨j, hj, hne, rfl⟩ := hn
  exact fun e => hne ((List.getElem_inj r.nd).1 e.symm)
set_option maxRecDepth 6000 in
set_option maxHeartbeats 8000000 in
theorem mClose_c {B gm gt k : Nat} {fp : Nat → Prop} {w : World} {s : Stt} {O : List Nat} {ov : Value} (o : OpV) (h : MW B fp w gm gt s O ov) (si : SI k s.u s.hs s.T) (hk : k ≤ 70000) (hp : o.path.length ≤ 100000) (hp2 : o.path2.length ≤ 100000) (hdt : o.data.length ≤ 100000) (fl : FL s.hs) :
    Calls Try.prog 51 #[.pointer (some ⟨gm, 0, none⟩), .agg (opC o).toArray] w fun e w' => MP B fp w gm gt ov ⟨(clsF s.u s.hs s.T o.h).2.2.2, 0, [], sta0, []⟩ ⟨(clsF s.u s.hs s.T o.h).1, (clsF s.u s.hs s.T o.h).2.1, (clsF s.u s.hs s.T o.h).2.2.1⟩ e w' := by
  have HH := Hid.mk h
  obtain ⟨ok, oh, ofl, omo, on, oo, owh, op, op2, od⟩ := o
  simp only at hp hp2 hdt ⊢
  obtain ⟨R, hR⟩ : ∃ R, R = clsF s.u s.hs s.T oh := ⟨_, rfl⟩
  rw [← hR]
  unfold clsF at hR
  cases ho : opn s.u oh with
  | false =>
    have hg : getOK s.u s.hs oh 0 = false := by rw [get0 fl, ho]
    rw [if_pos hg] at hR
    have HV := Hid.mk hR
    have WF := Hid.mk (fun W (kk : Keep w W) => where_f (h.keep kk) ho)
    clear hR hg ho h
    go_enter Try.func51, Try.ntmps51
    go_upto_region 1 with fail
    obtain ⟨w1, hw1⟩ : ∃ w1, w1 = (w.alloc (.cells (opC ⟨ok, oh, ofl, omo, on, oo, owh, op, op2, od⟩).toArray 37)).alloc (.cells #[.int .i64 0, .int .i64 0, str [], .int .i64 0, .int .i64 0, .int .i64 0, .int .i64 0, .int .i64 0, .slice none 0 0] 34) := ⟨_, rfl⟩
    rw [← hw1]
    have TWO : Two w w1 ⟨ok, oh, ofl, omo, on, oo, owh, op, op2, od⟩ := by rw [hw1]; exact Two.mk' w _
    obtain ⟨gA, hgA⟩ : ∃ g, g = w.heap.size := ⟨_, rfl⟩
    obtain ⟨gB, hgB⟩ : ∃ g, g = w.heap.size + 1 := ⟨_, rfl⟩
    have HGB : Hid (w.heap.size ≤ gB ∧ gB < w1.heap.size) := Hid.mk ⟨by omega, by rw [TWO.sz]; omega⟩
    have HAB : Hid (Arr w1 gB 34 zeroC) := Hid.mk (by rw [hgB]; exact TWO.b)
    have HAA : Hid (Arr w1 gA 37 (opC ⟨ok, oh, ofl, omo, on, oo, owh, op, op2, od⟩)) := Hid.mk (by rw [hgA]; exact TWO.a)
    have K1 := TWO.k
    have HK1 := Hid.mk K1
    have HNF : Hid (¬ fpM fp gm ov gA ∧ ¬ fpM fp gm ov gB ∧ gA ≠ gB ∧ gm ≠ gB ∧ gm ≠ gA) := Hid.mk ⟨fun a => by have := HH.out.flt a; omega, fun a => by have := HH.out.flt a; omega, by omega, fun e => by have := HH.out.flt (Or.inr (Or.inl rfl) : fpM fp gm ov gm); omega, fun e => by have := HH.out.flt (Or.inr (Or.inl rfl) : fpM fp gm ov gm); omega⟩
    rw [← hgB, ← hgA]
    clear hw1 TWO hgA hgB
    have a0 := HAA.out.cell 0
    have a1 := HAA.out.cell 1
    have a2 := HAA.out.cell 2
    have a3 := HAA.out.cell 3
    have a4 := HAA.out.cell 4
    have a5 := HAA.out.cell 5
    have a6 := HAA.out.cell 6
    have a7 := HAA.out.cell 7
    have a8 := HAA.out.cell 8
    have a9 := HAA.out.cell 9
    simp only [opC, List.getElem?_cons_zero, List.getElem?_cons_succ] at a0 a1 a2 a3 a4 a5 a6 a7 a8 a9
    obtain ⟨x0, x1⟩ := (HH.out.keep K1).cells
    go_wp2_with fail
    refine (WF.out _ K1).mono ?_
    rintro e y1 ⟨rfl, hy1⟩
    subst hy1
    have HQ1 := Hid.mk (Keep.refl y1)
    go_wp2_with fail
    refine (refuse_c 1 _).mono ?_
    rintro e y2 ⟨rfl, q2⟩
    obtain ⟨b0, b1, b2, b3, b4, b5, b6, b7, b8, z0, z1, z2, z3, z4, z5, z6, z7, z8⟩ := z9 (HAB.out.keep (HQ1.out.trans q2))
    have HE := Hid.mk (MP.fin (a := ⟨1, 0, [], sta0, []⟩) (v := (.slice none 0 0)) HH.out HK1.out (HH.out.keep (HK1.out.trans (HQ1.out.trans q2))) (Stp.keep (HQ1.out.trans q2)) HGB.out (OwnS.nil _ _ _ _ _) (fr9 (.int .i64 1) (.int .i64 0) (str []) (.int .i64 0) (.int .i64 0) (.int .i64 0) (.int .i64 0) (.int .i64 0) (.slice none 0 0)))
    have HAZ := Hid.mk (arr9 (HAB.out.keep (HQ1.out.trans q2)) (.int .i64 1) (.int .i64 0) (str []) (.int .i64 0) (.int .i64 0) (.int .i64 0) (.int .i64 0) (.int .i64 0) (.slice none 0 0))
    clear q2
    go_wp2_with fail
    refine bodyPost_ret (v := .agg (ansC ⟨1, 0, [], sta0, []⟩ (.slice none 0 0)).toArray) (results_cell_row1 rfl _ _ gB 34 _ (0, 0) _ rfl HAZ.out Try.underlying34 rfl s34) rfl ?_
    rw [HV.out]
    exact HE.out
  | true =>
    have hg : getOK s.u s.hs oh 0 = true := by rw [get0 fl, ho]
    rw [if_neg (by rw [hg]; decide)] at hR
    clear hg
    obtain ⟨i, hi, hox, hox2⟩ := h.rel.idx ho
    have X := HX.of h.rel si hi
    have hfl := fl O[i]
    rw [hox2] at hR
    obtain ⟨g, c, hov, l1, l2, -⟩ := h.row hi
    subst hov
    have HWT : Hid (∀ W, Keep w W → Calls Try.prog 55 #[.pointer (some ⟨gm, 0, none⟩), .int .i64 oh] W fun e w' => e = .returned (.int .i64 i) ∧ w' = W) := Hid.mk (fun W (kk : Keep w W) => by rw [hox]; exact where_t (h.keep kk) hi)
    clear hox2 ho hox
    have HROW := Hid.mk (fun W (kk : Keep w W) => (h.keep kk).rowAt hi)
    have HTR := Hid.mk (fun W (kk : Keep w W) => (h.keep kk).tree.tr)
    have HKC := Hid.mk (fun W (kk : Keep w W) => kindOf_c (h.keep kk) X.nl)
    have HOFF := Hid.mk (fun W (M : MW B fp W gm gt s O (.slice (some ⟨g, 0, none⟩) O.length c)) z => M.setOff hi z)
    have HCUR := Hid.mk (fun W (M : MW B fp W gm gt s O (.slice (some ⟨g, 0, none⟩) O.length c)) z => M.setCur hi z)
    have i1 : (i : Int) < O.length := by omega
    have i2 : (0 : Int) ≤ i := by omega
    unfold maxLen at l2
    have hnl := X.nl
    have HREL := Hid.mk h.rel
    have hO32 : (O.length : Int) ≤ 32 := by
      have h1 := List.Nodup.length_le_of_subset (l₂ := List.range 32) h.rel.nd (fun n hn => List.mem_range.2 ((h.rel.mem n).1 hn).1)
      rw [List.length_range] at h1
      omega
    have HRC := Hid.mk (fun W (kk : Keep w W) => release_c B gt (hat s.hs O[i]).node fp s.T W (h.keep kk).tree hnl X.op (by have := si.h.olt (hat s.hs O[i]).node; omega))
    generalize releaseF s.T (hat s.hs O[i]).node = T' at *
    have HV := Hid.mk hR
    clear hR h si fl hfl X
    go_enter Try.func51, Try.ntmps51
    go_upto_region 1 with fail
    obtain ⟨w1, hw1⟩ : ∃ w1, w1 = (w.alloc (.cells (opC ⟨ok, oh, ofl, omo, on, oo, owh, op, op2, od⟩).toArray 37)).alloc (.cells #[.int .i64 0, .int .i64 0, str [], .int .i64 0, .int .i64 0, .int .i64 0, .int .i64 0, .int .i64 0, .slice none 0 0] 34) := ⟨_, rfl⟩
    rw [← hw1]
    have TWO : Two w w1 ⟨ok, oh, ofl, omo, on, oo, owh, op, op2, od⟩ := by rw [hw1]; exact Two.mk' w _
    obtain ⟨gA, hgA⟩ : ∃ g, g = w.heap.size := ⟨_, rfl⟩
    obtain ⟨gB, hgB⟩ : ∃ g, g = w.heap.size + 1 := ⟨_, rfl⟩
    have HGB : Hid (w.heap.size ≤ gB ∧ gB < w1.heap.size) := Hid.mk ⟨by omega, by rw [TWO.sz]; omega⟩
    have HAB : Hid (Arr w1 gB 34 zeroC) := Hid.mk (by rw [hgB]; exact TWO.b)
    have HAA : Hid (Arr w1 gA 37 (opC ⟨ok, oh, ofl, omo, on, oo, owh, op, op2, od⟩)) := Hid.mk (by rw [hgA]; exact TWO.a)
    have K1 := TWO.k
    have HK1 := Hid.mk K1
    have HNF : Hid (¬ fpM fp gm (.slice (some ⟨g, 0, none⟩) O.length c) gA ∧ ¬ fpM fp gm (.slice (some ⟨g, 0, none⟩) O.length c) gB ∧ gA ≠ gB ∧ gm ≠ gB ∧ gm ≠ gA) := Hid.mk ⟨fun a => by have := HH.out.flt a; omega, fun a => by have := HH.out.flt a; omega, by omega, fun e => by have := HH.out.flt (Or.inr (Or.inl rfl) : fpM fp gm (.slice (some ⟨g, 0, none⟩) O.length c) gm); omega, fun e => by have := HH.out.flt (Or.inr (Or.inl rfl) : fpM fp gm (.slice (some ⟨g, 0, none⟩) O.length c) gm); omega⟩
    rw [← hgB, ← hgA]
    clear hw1 TWO hgA hgB
    have a0 := HAA.out.cell 0
    have a1 := HAA.out.cell 1
    have a2 := HAA.out.cell 2
    have a3 := HAA.out.cell 3
    have a4 := HAA.out.cell 4
    have a5 := HAA.out.cell 5
    have a6 := HAA.out.cell 6
    have a7 := HAA.out.cell 7
    have a8 := HAA.out.cell 8
    have a9 := HAA.out.cell 9
    simp only [opC, List.getElem?_cons_zero, List.getElem?_cons_succ] at a0 a1 a2 a3 a4 a5 a6 a7 a8 a9
    obtain ⟨x0, x1⟩ := (HH.out.keep K1).cells
    obtain ⟨fz, r0, r1, r2, r3, r4, r5, r6⟩ := HROW.out _ K1
    go_wp2_with fail
    refine (HWT.out _ K1).mono ?_
    rintro e y1 ⟨rfl, hy1⟩
    subst hy1
    have HQ1 := Hid.mk (Keep.refl y1)
    go_upto_region 4 with fail
    go_cut [27] from 15 to 26 (fun _ wx => ∃ fp1, MW B fp1 wx gm gt ⟨s.u, s.hs, T'⟩ O (.slice (some ⟨g, 0, none⟩) O.length c) ∧ Stp (fpM fp gm (.slice (some ⟨g, 0, none⟩) O.length c)) (fpM fp1 gm (.slice (some ⟨g, 0, none⟩) O.length c)) y1 wx)
    case first =>
      have HSK : Hid (∀ W : World, Keep y1 W → W.cell? ⟨gm, 0, none⟩ = some (.pointer (some ⟨gt, 0, none⟩)) ∧ W.cell? ⟨gm, 1, none⟩ = some (.slice (some ⟨g, 0, none⟩) O.length c) ∧ W.cell? ⟨g, i * 7 + 1, none⟩ = some (.int .i64 ((hat s.hs O[i]).node : Nat))) := Hid.mk (fun W kk => ⟨kk.cell x0, kk.cell x1, kk.cell r1⟩)
      have HMW := Hid.mk (HH.out.keep HK1.out)
      go_region_held3 (fun W : World => W.cell? ⟨gm, 0, none⟩ = some (.pointer (some ⟨gt, 0, none⟩)) ∧ W.cell? ⟨gm, 1, none⟩ = some (.slice (some ⟨g, 0, none⟩) O.length c) ∧ W.cell? ⟨g, i * 7 + 1, none⟩ = some (.int .i64 ((hat s.hs O[i]).node : Nat)))
        (with_reducible first | assumption | exact ⟨x0, x1, r1⟩ | exact HSK.out _ (Keep.refl y1).drew | exact S2)
        ((go_at_call 84; refine (HRC.out _ (HK1.out.trans (Keep.refl y1).drew)).mono ?_; rintro x y ⟨fp1, rfl, t1, s1⟩
          obtain ⟨M1, s2⟩ := (HMW.out.keep (Keep.refl y1).drew).step t1 s1
          have S2 : (fun W : World => W.cell? ⟨gm, 0, none⟩ = some (.pointer (some ⟨gt, 0, none⟩)) ∧ W.cell? ⟨gm, 1, none⟩ = some (.slice (some ⟨g, 0, none⟩) O.length c) ∧ W.cell? ⟨g, i * 7 + 1, none⟩ = some (.int .i64 ((hat s.hs O[i]).node : Nat))) y := ⟨M1.cells.1, M1.cells.2, (M1.rowAt hi).2.2.1⟩
          have HM1 := Hid.mk M1
          have HS1 := Hid.mk ((Stp.keep (Keep.refl y1).drew).trans s2)
          clear M1 s1 s2 t1))
      go_wp2_with fail
      go_meet
      case rel => exact ⟨fp1, HM1.out, HS1.out⟩
    case rest =>
      obtain ⟨fp1, M1, s1⟩ := hcut
      obtain ⟨y5, hy5⟩ : ∃ y5, y5 = wc := ⟨_, rfl⟩
      subst hy5
      have HM1 := Hid.mk M1
      have HS1 := Hid.mk s1
      have HAB1 := Hid.mk (s1.1.arr HNF.out.2.1 HAB.out)
      clear s1 M1 x0 x1 r0 r1 r2 r3 r4 r5 r6 fz a0 a1 a2 a3 a4 a5 a6 a7 a8 a9
      go_wp2_with fail
      go_loopg [6, 7] O.length (fun gk v6 v7 wr => ∃ (k2 : Nat) (rv : Value), k2 + gk = O.length ∧ v7 = .int .i64 k2 ∧ v6 = rv ∧ OwnS mopC 7 91 y5.heap.size wr rv (rowsOf s.hs ((O.take k2).eraseIdx i)) ∧ Keep y5 wr)
      case atStart => exact ⟨0, _, by omega, rfl, rfl, OwnS.nil _ _ _ _ _, Keep.refl _⟩
      case round =>
        obtain ⟨k2, rv, hk2, rfl, hrv, ow, kw⟩ := hrel
        rw [hrv]
        have HRV := Hid.mk hrv
        clear hrv
        have HKK := Hid.mk hk2
        obtain ⟨u0, u1⟩ := (HM1.out.keep kw).cells
        have HOW := Hid.mk ow
        have HKW := Hid.mk kw
        clear ow hk2
        by_cases hlt : k2 < O.length
        · have j1 : (k2 : Int) < O.length := by omega
          have j2 : (0 : Int) ≤ k2 := by omega
          by_cases hx : k2 = i
          · have q1 : ((k2 : Int) != (i : Int)) = false := by simp; omega
            have HT : Hid ((O.take (k2 + 1)).eraseIdx i = (O.take k2).eraseIdx i) := Hid.mk (erase_at hlt hx)
            clear hx
            go_wp2_with fail
            go_roundg (gk - 1)
            case measure => have := HKK.out; omega
            case rel => exact ⟨k2 + 1, rv, by have := HKK.out; omega, by go_num, rfl, by rw [HT.out]; exact HOW.out, HKW.out⟩
          · have q1 : ((k2 : Int) != (i : Int)) = true := by simp; omega
            have HT : Hid (rowsOf s.hs ((O.take (k2 + 1)).eraseIdx i) = rowsOf s.hs ((O.take k2).eraseIdx i) ++ [(O[k2], hat s.hs O[k2])]) := Hid.mk (by rw [erase_ne hlt hx]; unfold rowsOf; rw [List.map_append]; rfl)
            have HL : Hid ((rowsOf s.hs ((O.take k2).eraseIdx i)).length ≤ 32) := Hid.mk (by
              rw [rowsOf_len]
              have := List.length_eraseIdx_le (O.take k2) i
              rw [List.length_take] at this
              omega)
            obtain ⟨-, e0, e1, e2, e3, e4, e5, e6⟩ := (HM1.out.keep kw).rowAt hlt
            simp only at e0 e1 e2 e3 e4 e5 e6
            have hwB : y5.heap.size ≤ wr.heap.size := kw.size
            clear hx kw
            go_wp2_with (at_builtin; refine wpList_appS (by rfl) _ _ _ (by rfl) mopC Try.underlying44 inf91 rfl (by omega) mopC_len y5.heap.size (by rfl) (HOW.out.alloc _) wr.heap.size (O[k2], hat s.hs O[k2]) (by rfl) (Arr.new wr 91 _) (mopC_one _) (by have := HL.out; simp [maxLen]; omega) (by have := HL.out; omega) (by simp; omega) ?_; intro v' w' hown' hgr hob)
            go_roundg (gk - 1)
            case measure => have := HKK.out; omega
            case rel => exact ⟨k2 + 1, v', by have := HKK.out; omega, by go_num, rfl, by rw [HT.out]; exact hown', (HKW.out.alloc _).grown hgr (fun q hq => (HOW.out.lt q hq).1)⟩
        · have j1 : ¬ (k2 : Int) < O.length := by omega
          have hkO : k2 = O.length := by have := HKK.out; omega
          have HSW := HM1.out.swap (rv := rv) (Fr.keep HKW.out) (by rw [rows_close HREL.out hi hd0]; have := HOW.out; rw [hkO, List.take_length] at this; exact this.mono (Nat.le_of_lt (Nat.lt_of_le_of_lt HM1.out.lo HM1.out.arr.lt))) (fun q hq => Or.inr (HOW.out.lt q hq).1) (HREL.out.close hi hd0)
          have HM2 := Hid.mk HSW.1
          have HS2 := Hid.mk (HS1.out.trans HSW.2)
          have f1 := (HM1.out.arr.keep kw).frozen 1
          have nB : ¬ fpM fp1 gm (.slice (some ⟨g, 0, none⟩) O.length c) gB := fun a => by
            rcases HS1.out.2 gB a with b | b
            · exact HNF.out.2.1 b
            · have := HGB.out.2; omega
          have HAB2 := Hid.mk (HSW.2.1.arr nB HAB1.out)
          clear HSW nB hkO kw
          obtain ⟨ra, rn, rc, hrs⟩ : ∃ a n c, rv = .slice a n c := by
            rcases HOW.out.form with ⟨e, -⟩ | ⟨g', cap', cur', e, -⟩
            · exact ⟨_, _, _, e⟩
            · exact ⟨_, _, _, e⟩
          subst hrs
          go_upto_region 12 with fail
          generalize wr.setCell ⟨gm, 1, none⟩ (.slice ra rn rc) = y6 at *
          obtain ⟨b0, b1, b2, b3, b4, b5, b6, b7, b8, z0, z1, z2, z3, z4, z5, z6, z7, z8⟩ := z9 HAB2.out
          have HE := Hid.mk (MP.fin (a := ⟨0, 0, [], sta0, []⟩) (v := (.slice none 0 0)) HH.out HK1.out HM2.out HS2.out HGB.out (OwnS.nil _ _ _ _ _) (fr9 (.int .i64 0) (.int .i64 0) (str []) (.int .i64 0) (.int .i64 0) (.int .i64 0) (.int .i64 0) (.int .i64 0) (.slice none 0 0)))
          have HAZ := Hid.mk (arr9 HAB2.out (.int .i64 0) (.int .i64 0) (str []) (.int .i64 0) (.int .i64 0) (.int .i64 0) (.int .i64 0) (.int .i64 0) (.slice none 0 0))
          go_wp2_with fail
          refine bodyPost_ret (v := .agg (ansC ⟨0, 0, [], sta0, []⟩ (.slice none 0 0)).toArray) (results_cell_row1 rfl _ _ gB 34 _ (0, 0) _ rfl HAZ.out Try.underlying34 rfl s34) rfl ?_
          rw [HV.out]
          exact HE.out
end Go.Proofs.Qxb6500767a
