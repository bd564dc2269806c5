/- foldindex: rehash. -/
import Derived.Test.Qxb6500766aTb
import Derived.Test.Qxb6500766aTq
namespace Go.Proofs.Qxb6500766a
open Go.RowKit Go.Qm
set_option linter.unusedVariables false
set_option linter.unusedSimpArgs false
attribute [local go_sem ↓] Go.wp_at_zero Go.wp_at_succ
theorem flat_set4 (x : Slot) : ∀ (ss : List Slot) (j : Nat), j < ss.length → ((((ss.flatMap slotC).set (j * 4) (.int .u8 x.st)).set (j * 4 + 1) (.int .u32 x.hash)).set (j * 4 + 2) (str x.key)).set (j * 4 + 3) x.lv = (ss.set j x).flatMap slotC
  | [], j, h => by simp at h
  | s :: l, 0, _ => by simp [slotC]
  | s :: l, j + 1, h => by
    have ih := flat_set4 x l j (by simpa using h)
    simp only [List.flatMap_cons, List.set_cons_succ]
    rw [show (j + 1) * 4 = (slotC s).length + j * 4 by rw [slotC_length]; omega]
    simp only [Nat.add_assoc]
    rw [List.set_append_right _ _ (by omega), List.set_append_right _ _ (by omega), List.set_append_right _ _ (by omega), List.set_append_right _ _ (by omega)]
    simp only [Nat.add_sub_cancel_left]
    rw [ih]
theorem Slots.set4 {w : World} {b : Nat} {ss : List Slot} (h : Slots w b ss) {j : Nat} (hj : j < ss.length) (x : Slot) :
    Slots ((((w.setCell ⟨b, j * 4, none⟩ (.int .u8 x.st)).setCell ⟨b, j * 4 + 1, none⟩ (.int .u32 x.hash)).setCell ⟨b, j * 4 + 2, none⟩ (str x.key)).setCell ⟨b, j * 4 + 3, none⟩ x.lv) b (ss.set j x) := by
  unfold Slots
  rw [← flat_set4 x ss j hj]
  exact (((Arr.set h _ _).set _ _).set _ _).set _ _
theorem Slots.keep {w w' : World} {b : Nat} {ss : List Slot} (h : Slots w b ss) (k : Keep w w') : Slots w' b ss := Arr.keep h k
theorem _root_.Go.Qm.Arr.apart {w : World} {g g2 : Nat} {t : TypeId} {cs : List Value} (h : Arr w g t cs) (hne : g2 ≠ g) (i : Nat) (u : Value) : Arr (w.setCell ⟨g2, i, none⟩ u) g t cs := h.kept (grown_set (grown_refl w _) i u) (Ne.symm hne)
theorem Slots.apart {w : World} {b g2 : Nat} {ss : List Slot} (h : Slots w b ss) (hne : g2 ≠ b) (i : Nat) (u : Value) : Slots (w.setCell ⟨g2, i, none⟩ u) b ss := Arr.apart h hne i u
theorem live_take {ss : List Slot} {k : Nat} (hk : k < ss.length) : LiveL (ss.take (k + 1)) = LiveL (ss.take k) ++ (if (sl ss k).st = 1 then [sl ss k] else []) := by
  unfold LiveL
  rw [List.take_succ_eq_append_getElem hk, List.filter_append, sl_eq hk]
  congr 1
  by_cases h : ss[k].st = 1
  · rw [if_pos h]; simp [liveB, h]
  · rw [if_neg h]; simp [liveB, h]
theorem live_take_le (ss : List Slot) (k : Nat) : (LiveL (ss.take k)).length ≤ (LiveL ss).length := by
  conv => rhs; rw [← List.take_append_drop k ss]
  unfold LiveL
  rw [List.filter_append, List.length_append]
  omega
theorem reh_absent {ss ns : List Slot} {k : Nat} (tv : TV ss) (hk : k < ss.length) (h1 : (sl ss k).st = 1) (hp : (LiveL ns).Perm (LiveL (ss.take k))) :
    ∀ i, i < ns.length → (sl ns i).st = 1 → (sl ns i).key ≠ (sl ss k).key := by
  intro i hi hs he
  have hm : sl ns i ∈ LiveL ns := by unfold LiveL; rw [List.mem_filter]; exact ⟨sl_mem hi, by simp [liveB, hs]⟩
  have hm2 := hp.mem_iff.1 hm
  unfold LiveL at hm2
  rw [List.mem_filter] at hm2
  obtain ⟨j, hj, e⟩ := List.mem_iff_getElem.1 hm2.1
  rw [List.length_take] at hj
  rw [List.getElem_take] at e
  have hj' : j < ss.length := by omega
  have e2 : sl ss j = sl ns i := by rw [sl_eq hj', e]
  have := tv.uniq j k hj' hk (by rw [e2]; exact hs) h1 (by rw [e2]; exact he)
  omega
def RehP (w : World) (tc g o live : Nat) (cs : List Value) (ss : List Slot) (e : Ending) (w' : World) : Prop :=
  ∃ b' n' ss' gr, e = .returned (.bool gr) ∧ n' = ss'.length ∧ w.heap.size ≤ b' ∧ Slots w' b' ss' ∧ TV ss' ∧ (LiveL ss').Perm (LiveL ss) ∧ deadN ss' = 0 ∧ 4 * (live + 1) ≤ 3 * n' ∧
      Arr w' g tc (((cs.set o (.slice (some ⟨b', 0, none⟩) n' n')).set (o + 1) (.int .i64 live)).set (o + 2) (.int .i64 0)) ∧ w.grownBy w' (some g)
set_option maxRecDepth 2000 in
set_option maxHeartbeats 4000000 in
theorem rehash_c (tc g o b n live dead : Nat) (cs : List Value) (ss : List Slot) (w : World) (A : Arr w g tc cs) (c0 : cs[o]? = some (.slice (some ⟨b, 0, none⟩) n n)) (c1 : cs[o + 1]? = some (.int .i64 live)) (c2 : cs[o + 2]? = some (.int .i64 dead))
    (hS : Slots w b ss) (hn : n = ss.length) (tv : TV ss) (hl : live = (LiveL ss).length) (hlb : live ≤ 10000) (hlv : ∀ s ∈ ss, ∃ a i j, s.lv = .slice a i j) :
    Calls Try.prog 64 #[.pointer (some ⟨g, o, none⟩)] w fun e w' => RehP w tc g o live cs ss e w' := by
  have HN := Hid.mk hn
  have HL := Hid.mk hl
  have hn20 : n ≤ 2 ^ 20 := by
    obtain ⟨m, _, h20, e⟩ := tv.pow
    rw [hn, e]; exact Nat.pow_le_pow_right (by omega) h20
  clear hn hl
  have d0 := (A.cell o).trans c0
  have d1 := (A.cell (o + 1)).trans c1
  have NT := fun W => newTable_c (live + 1) W (by omega)
  have yl : IntKind.i64.wrap ((live : Int) + 1) = ((live + 1 : Nat) : Int) := by rw [IntKind.wrap_i64] <;> omega
  obtain ⟨l1, hl1⟩ : ∃ l1, l1 = live + 1 := ⟨_, rfl⟩
  rw [← hl1] at NT yl
  have HL1 := Hid.mk hl1
  clear hl1
  go_enter Try.func64, Try.ntmps64
  go_wp2_with fail
  refine (NT _).mono ?_
  rintro e w1 ⟨m, z, b', hsz, rfl, hb', hS', k1⟩
  obtain ⟨h3, h20, hzn, hzm⟩ := hsz
  have HZM := Hid.mk hzm
  clear hzm
  have A4 := Arr.new w1 68 [.slice (some ⟨b', 0, none⟩) z z, .int .i64 0, .int .i64 0]
  have K4 := k1.alloc (.cells #[.slice (some ⟨b', 0, none⟩) z z, .int .i64 0, .int .i64 0] 68)
  have hg4 : w.heap.size ≤ w1.heap.size := k1.size
  have hbl : b' < w1.heap.size := Arr.lt hS'
  have S0 := hS'.keep ((Keep.refl w1).alloc (.cells #[.slice (some ⟨b', 0, none⟩) z z, .int .i64 0, .int .i64 0] 68))
  go_wp2_with fail
  generalize w1.alloc (.cells #[.slice (some ⟨b', 0, none⟩) z z, .int .i64 0, .int .i64 0] 68) = w2 at *
  generalize w1.heap.size = g4 at *
  have hgne : g4 ≠ b' := by omega
  obtain ⟨T0, T1, T2⟩ := TV.new m h3 h20
  rw [← HZM.out] at T0 T1 T2
  have hz20 : z ≤ 2 ^ 20 := by rw [HZM.out]; exact Nat.pow_le_pow_right (by omega) h20
  go_loopg [5, 6, 7] n (fun gk iv av bv wr => ∃ (k lk : Nat) (ns : List Slot), k + gk = n ∧ iv = .int .i64 k ∧ Arr wr g4 68 [.slice (some ⟨b', 0, none⟩) z z, .int .i64 lk, .int .i64 0] ∧ Slots wr b' ns ∧ TV ns ∧ ns.length = z ∧ (LiveL ns).Perm (LiveL (ss.take k)) ∧ deadN ns = 0 ∧ lk = (LiveL ns).length ∧ Keep w wr)
  case atStart => exact ⟨0, 0, _, by omega, rfl, A4, S0, T0, by simp, by rw [T1]; exact List.Perm.refl _, T2, by rw [T1]; rfl, K4⟩
  case round => as_aux_lemma =>
    obtain ⟨k, lk, ns, hk, rfl, B4, NS, tn, hnl, hpm, hdn, hlk, kw⟩ := hrel
    have HK := Hid.mk hk
    have HPM := Hid.mk hpm
    have HDN := Hid.mk hdn
    have HLK := Hid.mk hlk
    have HNL := Hid.mk hnl
    have TN := Hid.mk tn
    clear hk hpm hdn hlk hnl tn A4 S0 K4 T0 T1 T2 hS'
    by_cases hlt : k < n
    · have i1 : (k : Int) < n := by omega
      have hks : k < ss.length := by have := HN.out; omega
      have WS := hS.keep kw
      obtain ⟨s0, s1, s2, s3⟩ := WS.at k hks
      rw [← sl_eq hks] at s0 s1 s2 s3
      have HLT := Hid.mk (live_take hks)
      obtain ⟨X, hX⟩ : ∃ X, X = sl ss k := ⟨_, rfl⟩
      rw [← hX] at s0 s1 s2 s3 HLT
      have HX := Hid.mk hX
      have hxm : X ∈ ss := by rw [hX]; exact sl_mem hks
      obtain ⟨la, li, lj, hxl⟩ := hlv X hxm
      have hll : (LiveL ns).length ≤ live := by have a := HPM.out.length_eq; have b := live_take_le ss k; have c := HL.out; omega
      clear hX
      by_cases hst : X.st = 1
      · have t1 : (((X.st : Nat) : Int) != 1) = false := by simp [hst]
        have habs := reh_absent tv hks (by rw [← HX.out]; exact hst) HPM.out
        rw [← HX.out] at habs
        have hxh : X.hash = hashB X.key := tv.hh X hxm hst
        rcases find_spec TN.out X.key with ⟨i, hi, -, he1, he2⟩ | ⟨j, hj, hfj, hjs, hjp, -⟩
        · exact absurd he2 (habs i hi he1)
        have e0 := B4.cell 0
        have e1 := B4.cell 1
        simp only [List.getElem?_cons_zero, List.getElem?_cons_succ] at e0 e1
        have FC := fun q => find_c g4 0 b' z m ns X.key X.hash (wr.drewN q) e0 NS HNL.out.symm HZM.out h20 (by rw [hxh]; exact hashB_lt _)
        rw [hxh, hfj] at FC
        rw [← hxh] at FC
        simp only at FC
        have hjz : j < z := by have := HNL.out; omega
        have j1 : (j : Int) < z := by omega
        have PUT := TN.out.put hj hjs (x := X) hst hxh hjp habs (fun _ => by have := HDN.out; have := HNL.out; have := HL1.out; omega)
        have hj2 : (sl ns j).st ≠ 2 := by
          intro e
          have h1 := PUT.2.2
          rw [if_pos e, HDN.out] at h1
          omega
        obtain ⟨P1, P2, P3⟩ := PUT
        rw [if_neg hj2, HDN.out] at P3
        have HP1 := Hid.mk P1
        have HP2 := Hid.mk P2
        have HP3 := Hid.mk P3
        have hbb : b ≠ b' := by have := Arr.lt hS; omega
        have hlk20 : lk ≤ 2 ^ 20 := by have := HLK.out; omega
        obtain ⟨xst, xh, xk, xlv, xes⟩ := X
        simp only at s0 s1 s2 s3 hst t1 hxl FC
        subst hst hxl
        clear hxh habs hjp hfj P1 P2 P3 hjs hj2
        obtain ⟨n0, n1, n2, n3⟩ := NS.at j hj
        have f0 := Arr.frozen NS (j * 4)
        have f1 := Arr.frozen NS (j * 4 + 1)
        have f2 := Arr.frozen NS (j * 4 + 2)
        have f3 := Arr.frozen NS (j * 4 + 3)
        have f4 := B4.frozen 1
        go_upto_region 7 with fail
        go_quiet ((go_at_call 57; with_reducible refine Calls.quiet_of_same (FC _)))
        go_upto_region 8 with fail
        clear FC
        go_region
        go_wp2_with fail
        have NSq : Slots (wr.drewN (nq + 1)) b' ns := NS
        have Bq : Arr (wr.drewN (nq + 1)) g4 68 [.slice (some ⟨b', 0, none⟩) z z, .int .i64 lk, .int .i64 0] := B4
        have kq := kw.drewN (nq + 1)
        generalize wr.drewN (nq + 1) = wq at *
        have S5 := (NSq.set4 hj ⟨1, xh, xk, .slice la li lj, xes⟩).apart hgne 1 (.int .i64 ((lk : Int) + 1))
        have B5 := ((((Bq.apart (Ne.symm hgne) (j * 4) (.int .u8 1)).apart (Ne.symm hgne) (j * 4 + 1) (.int .u32 xh)).apart (Ne.symm hgne) (j * 4 + 2) (str xk)).apart (Ne.symm hgne) (j * 4 + 3) (.slice la li lj)).set 1 (.int .i64 ((lk : Int) + 1))
        have K5 := ((((kq.setCell hb' (p := ⟨b', j * 4, none⟩) (.int .u8 1)).setCell hb' (p := ⟨b', j * 4 + 1, none⟩) (.int .u32 xh)).setCell hb' (p := ⟨b', j * 4 + 2, none⟩) (str xk)).setCell hb' (p := ⟨b', j * 4 + 3, none⟩) (.slice la li lj)).setCell hg4 (p := ⟨g4, 1, none⟩) (.int .i64 ((lk : Int) + 1))
        go_roundg (gk - 1)
        case measure => have := HK.out; omega
        case rel => exact ⟨k + 1, lk + 1, _, by have := HK.out; omega, by go_num, B5, S5, HP1.out, by rw [List.length_set]; exact HNL.out, by rw [HLT.out, if_pos trivial]; exact HP2.out.trans ((List.Perm.cons _ HPM.out).trans (List.perm_append_singleton _ _).symm), HP3.out.symm.trans (by omega), by rw [HP2.out.length_eq, List.length_cons, HLK.out], K5⟩
      · have t1 : (((X.st : Nat) : Int) != 1) = true := by simp; omega
        have HLT2 : Hid (LiveL (ss.take (k + 1)) = LiveL (ss.take k)) := Hid.mk (by rw [HLT.out, if_neg hst, List.append_nil])
        clear hst
        go_wp2_with fail
        go_roundg (gk - 1)
        case measure => have := HK.out; omega
        case rel => exact ⟨k + 1, lk, ns, by have := HK.out; omega, by go_num, B4, NS, TN.out, HNL.out, by rw [HLT2.out]; exact HPM.out, HDN.out, HLK.out, kw⟩
    · have i1 : ¬ (k : Int) < n := by omega
      have hkn : k = n := by have := HK.out; omega
      have HPM2 : Hid ((LiveL ns).Perm (LiveL ss)) := Hid.mk (by have h := HPM.out; rw [List.take_of_length_le (by have := HN.out; omega)] at h; exact h)
      have hlk2 : lk = live := by have a := HPM2.out.length_eq; have b := HLK.out; have c := HL.out; omega
      subst hlk2
      clear hkn
      have e0 := B4.cell 0
      have e1 := B4.cell 1
      have e2 := B4.cell 2
      simp only [List.getElem?_cons_zero, List.getElem?_cons_succ] at e0 e1 e2
      have Ax := A.keep kw
      have d0 := (Ax.cell o).trans c0
      have d1 := (Ax.cell (o + 1)).trans c1
      have d2 := (Ax.cell (o + 2)).trans c2
      have f0 := Ax.frozen o
      have f1 := Ax.frozen (o + 1)
      have f2 := Ax.frozen (o + 2)
      have gA := A.lt
      have hgg : g ≠ g4 := by omega
      have hgb : g ≠ b' := by omega
      go_wp2_with fail
      have AF := ((Ax.set o (.slice (some ⟨b', 0, none⟩) z z)).set (o + 1) (.int .i64 lk)).set (o + 2) (.int .i64 0)
      have SF := ((NS.apart hgb o (.slice (some ⟨b', 0, none⟩) z z)).apart hgb (o + 1) (.int .i64 lk)).apart hgb (o + 2) (.int .i64 0)
      have GF := grown_set (grown_set (grown_set (keep_grown kw (some g)) o (.slice (some ⟨b', 0, none⟩) z z)) (o + 1) (.int .i64 lk)) (o + 2) (.int .i64 0)
      go_ret
      exact ⟨b', z, ns, _, rfl, HNL.out.symm, hb', SF, TN.out, HPM2.out, HDN.out, by have := HL1.out; omega, AF, GF⟩
end Go.Proofs.Qxb6500766a
