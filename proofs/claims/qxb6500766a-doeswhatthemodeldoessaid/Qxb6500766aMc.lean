/- foldindexm: remove. -/
import Derived.Test.Qxb6500766aMb
namespace Go.Proofs.Qxb6500766a
open Go Go.RowKit Go.Qm
set_option linter.unusedVariables false
set_option linter.unusedSimpArgs false
attribute [local go_sem ↓] Go.wp_at_zero Go.wp_at_succ
def mremF (rows : List Row) (o : OpV) : Int × List Row :=
  if badR o.dir o.layer o.name = true then (1, rows) else if rows.any (matR o) = true then (0, rows.eraseP (matR o)) else (4, rows)
theorem eraseP_at (p : Row → Bool) : ∀ {rows : List Row} {i : Nat} (hi : i < rows.length), p rows[i] = true → (rows.take i).any p = false → rows.eraseP p = rows.eraseIdx i
  | [], i, hi, _, _ => by simp at hi
  | r :: l, 0, _, h, _ => by rw [List.eraseP_cons_of_pos (by simpa using h)]; rfl
  | r :: l, i + 1, hi, h, hn => by
    simp only [List.take_succ_cons, List.any_cons, Bool.or_eq_false_iff] at hn
    rw [List.eraseP_cons_of_neg (by simp [hn.1]), List.eraseIdx_cons_succ, eraseP_at p (by simpa using hi) (by simpa using h) hn.2]
section
variable {B : Nat} {fp : Nat → Prop} {w : World} {gm : Nat} {rows : List Row}
theorem mrem_bad (p : Value) (kd d l what : Int) (name : List UInt8) (w : World) (hb : badR d l name = true) :
    Calls Try.prog 35 #[p, .agg #[.int .i64 kd, .int .i64 d, .int .i64 l, str name, .int .i64 what]] w fun e w' => e = .returned (.int .i64 1) ∧ Keep w w' := by
  have DO := fun W => dirOK_c d W
  have LO := fun W => layerOK_c l W
  have K1 := (Keep.refl w).alloc (.cells #[.int .i64 kd, .int .i64 d, .int .i64 l, str name, .int .i64 what] 32)
  unfold badR at hb
  cases h1 : dirB d with
  | false =>
    rw [h1] at DO
    go_enter Try.func35, Try.ntmps35
    go_wp2_with fail
    refine (DO _).mono ?_
    rintro e w1 ⟨rfl, rfl⟩
    go_wp2_with fail
    go_ret
    exact ⟨rfl, K1⟩
  | true =>
    rw [h1] at DO
    cases h2 : layB l with
    | false =>
      rw [h2] at LO
      go_enter Try.func35, Try.ntmps35
      go_wp2_with fail
      refine (DO _).mono ?_
      rintro e w1 ⟨rfl, rfl⟩
      go_wp2_with fail
      refine (LO _).mono ?_
      rintro e w1 ⟨rfl, rfl⟩
      go_wp2_with fail
      go_ret
      exact ⟨rfl, K1⟩
    | true =>
      rw [h2] at LO
      rw [h1, h2] at hb
      have hn : name = [] := by simpa using hb
      subst hn
      clear hb
      go_enter Try.func35, Try.ntmps35
      go_wp2_with fail
      refine (DO _).mono ?_
      rintro e w1 ⟨rfl, rfl⟩
      go_wp2_with fail
      refine (LO _).mono ?_
      rintro e w1 ⟨rfl, rfl⟩
      go_wp2_with fail
      go_ret
      exact ⟨rfl, K1⟩
theorem cut_last {B : Nat} {w : World} {g : Nat} {cur : List Value} {rs : List Row} (hA : Arr w g 112 cur) (hBg : B ≤ g) (ht : cur.take (rs.length * 4) = rs.flatMap mrC) (hl : rs.length ≤ 100000) {i : Nat} (hi : i + 1 = rs.length) (a : Addr) (c : Nat) (ty : TypeId) :
    (Builtin.append_ #[76, 76] ty #[.slice (some ⟨g, 0, none⟩) i i, .slice (some a) (rs.length - (i + 1)) c]).run Try.prog w = .ok (.slice (some ⟨g, 0, none⟩) i i) w ∧ RowW B w (.slice (some ⟨g, 0, none⟩) i i) (rs.eraseIdx i) := by
  obtain ⟨inf, hi', hz', hs', hby⟩ := info_parts inf112
  have e0 : rs.length - (i + 1) = 0 := by omega
  have et : rs.eraseIdx i = rs.take i := by rw [List.eraseIdx_eq_take_drop_succ, hi, List.drop_length, List.append_nil]
  have el : (rs.take i).length = i := by rw [List.length_take]; omega
  rw [e0, et]
  refine ⟨run_append_nothing (P := Try.prog) w 76 76 ty 112 inf Try.underlying76 hi' (some ⟨g, 0, none⟩) i i (Nat.le_refl _) _ (Src.ofSlice w Try.underlying76 a 0 c [] (by simp) (by simp) (by simp)), Or.inr ⟨g, cur, by rw [el], hBg, hA, by rw [el]; simp only [maxLen]; omega, ?_⟩⟩
  rw [el]
  have h1 : cur.take (i * 4) = (cur.take (rs.length * 4)).take (i * 4) := by rw [List.take_take, Nat.min_eq_left (by omega)]
  have h2 : rs.flatMap mrC = (rs.take i).flatMap mrC ++ (rs.drop i).flatMap mrC := by rw [← List.flatMap_append, List.take_append_drop]
  have h3 : ((rs.take i).flatMap mrC).length = i * 4 := by rw [flat_length mrC 4 mrC_length, el]
  rw [h1, ht, h2, ← h3]
  exact List.take_left
attribute [-go_sem] Go.Builtin.append_
set_option maxRecDepth 4000 in
set_option maxHeartbeats 4000000 in
theorem mrem_ok (kd d l what : Int) (name : List UInt8) (h : MW B fp w gm rows) (hb : badR d l name = false) (hlen : rows.length ≤ 65536) :
    Calls Try.prog 35 #[.pointer (some ⟨gm, 0, none⟩), .agg #[.int .i64 kd, .int .i64 d, .int .i64 l, str name, .int .i64 what]] w fun e w' => MRet B fp w gm (mremF rows ⟨kd, d, l, name, what⟩).2 (.returned (.int .i64 (mremF rows ⟨kd, d, l, name, what⟩).1)) e w' := by
  obtain ⟨hdi, hla, hne⟩ := badR_no hb
  have DO := fun W => dirOK_c d W
  have LO := fun W => layerOK_c l W
  rw [hdi] at DO
  rw [hla] at LO
  have n1 : (name == []) = false := by simpa using hne
  have K1 := (Keep.refl w).alloc (.cells #[.int .i64 kd, .int .i64 d, .int .i64 l, str name, .int .i64 what] 32)
  have O1 := Arr.new w 32 [.int .i64 kd, .int .i64 d, .int .i64 l, str name, .int .i64 what]
  obtain ⟨o, ho⟩ : ∃ o : OpV, o = ⟨kd, d, l, name, what⟩ := ⟨_, rfl⟩
  rw [← ho]
  have HAT : Hid (∀ i (hi : i < rows.length), (rows.take (i + 1)).any (matR o) = ((rows.take i).any (matR o) || matR o rows[i])) := Hid.mk (fun i hi => many_take hi)
  have HF0 : Hid (∀ i (hi : i < rows.length), matR o rows[i] = true → (rows.take i).any (matR o) = false → mremF rows o = (0, rows.eraseIdx i)) := Hid.mk (fun i hi q q2 => by unfold mremF; rw [if_neg (by rw [ho]; simp [hb]), if_pos (many_at hi q), eraseP_at _ hi q q2])
  have HF4 : Hid (rows.any (matR o) = false → mremF rows o = (4, rows)) := Hid.mk (fun q => by unfold mremF; rw [if_neg (by rw [ho]; simp [hb]), if_neg (by simp [q])])
  have HM : Hid (∀ r, matR o r = (((r.dir == d) && (r.layer == l)) && (r.raw == name))) := Hid.mk (fun r => by rw [ho]; rfl)
  have HW := Hid.mk h
  obtain ⟨v, Am, RW, hf⟩ := h.ex
  obtain ⟨av, cv, rfl, hcv, hcm, hca⟩ := RW.read
  have HCA := Hid.mk hca
  have HTL : Hid (rows.take rows.length = rows) := Hid.mk List.take_length
  have HAM := Hid.mk Am
  have HRW := Hid.mk RW
  have HFF := Hid.mk hf
  obtain ⟨n, hn⟩ : ∃ n, n = rows.length := ⟨_, rfl⟩
  rw [← hn] at hcv hlen Am
  have HN := Hid.mk hn
  have c0 := Go.Qm.Arr.cell Am 0
  simp only [List.getElem?_cons_zero] at c0
  have hBs : B ≤ w.heap.size := Nat.le_trans HW.out.gB (Nat.le_of_lt Am.lt)
  have gml := Am.lt
  clear h ho hb hdi hla hne hn hca RW hf
  go_enter Try.func35, Try.ntmps35
  go_wp2_with fail
  refine (DO _).mono ?_
  rintro e w1 ⟨rfl, rfl⟩
  go_wp2_with fail
  refine (LO _).mono ?_
  rintro e w1 ⟨rfl, rfl⟩
  go_wp2_with fail
  generalize hW1 : w.alloc (.cells #[.int .i64 kd, .int .i64 d, .int .i64 l, str name, .int .i64 what] 32) = w1 at *
  clear hW1 DO LO n1
  obtain ⟨gO, hgo⟩ : ∃ g, g = w.heap.size := ⟨_, rfl⟩
  rw [← hgo] at O1 ⊢
  have HGO := Hid.mk hgo
  have HC : Hid (∀ W, Keep w1 W → W.cell? ⟨gm, 0, none⟩ = some (.slice av n cv) ∧ W.cell? ⟨gO, 1, none⟩ = some (.int .i64 d) ∧ W.cell? ⟨gO, 2, none⟩ = some (.int .i64 l) ∧ W.cell? ⟨gO, 3, none⟩ = some (str name) ∧ W.cell? ⟨gO, 4, none⟩ = some (.int .i64 what)) := Hid.mk (fun W k => ⟨(K1.trans k).cell c0, (Go.Qm.Arr.cell (O1.keep k) 1), (Go.Qm.Arr.cell (O1.keep k) 2), (Go.Qm.Arr.cell (O1.keep k) 3), (Go.Qm.Arr.cell (O1.keep k) 4)⟩)
  have HO1 := Hid.mk O1
  clear hgo c0 O1
  go_loopg [5] n (fun gk iv wr => ∃ i : Nat, i + gk = n ∧ iv = .int .i64 i ∧ (rows.take i).any (matR o) = false ∧ Keep w1 wr)
  case atStart => exact ⟨0, by omega, rfl, rfl, Keep.refl _⟩
  case round =>
    obtain ⟨i, hi8, rfl, hna, kw⟩ := hrel
    have HI8 := Hid.mk hi8
    have HNA := Hid.mk hna
    clear hi8 hna
    obtain ⟨m0, o1, o2, o3, o4⟩ := HC.out wr kw
    by_cases hin : i < n
    · have j1 : (i : Int) < n := by omega
      have hir : i < rows.length := by have := HN.out; omega
      obtain ⟨gR, rfl, hgR, hr⟩ := HCA.out i hir
      obtain ⟨r0, r1, r2, r3⟩ := hr wr ((K1.trans kw).block gR hgR)
      have HA1 := Hid.mk (HAT.out i hir)
      have HMi := Hid.mk (HM.out rows[i])
      have HF0i := Hid.mk (HF0.out i hir)
      clear hr r3
      generalize rows[i] = r at *
      obtain ⟨rd, rl, rn, rk⟩ := r
      simp only at r0 r1 r2 HMi
      have hk2 : Hid (∀ nq, Keep w1 (wr.drewN nq)) := Hid.mk (fun nq => kw.drewN nq)
      by_cases hd : rd = d
      · have t1 : (rd == d) = true := by simpa using hd
        by_cases hl : rl = l
        · have t2 : (rl == l) = true := by simpa using hl
          by_cases hnm : rn = name
          · have t3 : (rn == name) = true := by simpa using hnm
            have HE := Hid.mk (HF0i.out (by rw [HMi.out, t1, t2, t3]; rfl) HNA.out)
            clear hnm hd hl
            go_wp2_with fail
            go_quiet (fail)
            have kw2 := hk2.out nq
            generalize wr.drewN nq = w2 at *
            clear m0 o1 o2 o3 o4 r0 r1 r2 hk2
            obtain ⟨m0, o1, o2, o3, o4⟩ := HC.out w2 kw2
            have RW2 := HRW.out.keep (K1.trans kw2)
            have AM2 := HAM.out.keep (K1.trans kw2)
            have f7 := Go.Qm.Arr.frozen AM2 0
            have hB2 : B ≤ w2.heap.size := Nat.le_trans hBs (K1.trans kw2).size
            have hrl : rows.length ≤ 65536 := by have := HN.out; omega
            have i0 : (0 : Int) ≤ i := by omega
            have i2 : (i : Int) ≤ cv := by omega
            have i3 : (i : Int) + 1 ≤ n := by omega
            have kz := (Keep.refl w2).drew
            have HNR := Hid.mk (fun W w7 v' (k : Keep w2 W) (gr : W.grownBy w7 (Value.slice (some ⟨gR, 0, none⟩) rows.length cv).ownBlock) RW7 hob r => MW.newRows (rows' := rows.eraseIdx i) (v' := v') HW.out.gB HAM.out HRW.out HFF.out ((K1.trans kw2).trans k) gr RW7 hob r)
            have HAF : Hid (∀ w7 : World, Keep w2 w7 → w7.cell? ⟨gm, 0, none⟩ = some (.slice (some ⟨gR, 0, none⟩) n cv) ∧ w7.frozen? ⟨gm, 0, none⟩ = false) := Hid.mk (fun w7 k => by
              have := AM2.keep k
              rw [← HN.out] at this
              exact ⟨(Go.Qm.Arr.cell this 0), Go.Qm.Arr.frozen this 0⟩)
            obtain ⟨cur, hAr, hBg, htk⟩ : ∃ cur, Arr w2 gR 112 cur ∧ B ≤ gR ∧ cur.take (rows.length * 4) = rows.flatMap mrC := by
              rcases RW2.form with ⟨e1, _⟩ | ⟨g, cap, cur, e1, hBg, hA, _, _, ht⟩
              · cases e1
              · simp only [Value.slice.injEq, Option.some.injEq, Addr.mk.injEq, and_true] at e1
                obtain ⟨rfl, _⟩ := e1
                exact ⟨cur, hA, hBg, ht⟩
            by_cases hlast : i + 1 = n
            · have hl2 : i + 1 = rows.length := by have := HN.out; omega
              have CL := fun a c => cut_last (w := w2.drew) (Go.Qm.Arr.drew hAr) hBg htk (by omega) hl2 a c 76
              rw [← HN.out] at CL
              have HCL := Hid.mk CL
              have HBZ : Hid (∀ r, MRet B fp w gm (rows.eraseIdx i) r r (w2.drew.setCell ⟨gm, 0, none⟩ (.slice (some ⟨gR, 0, none⟩) i i))) := Hid.mk (fun r => HNR.out w2.drew w2.drew _ kz (grown_refl _ _) (HCL.out ⟨gR, 0, none⟩ 0).2 (Or.inl rfl) r)
              obtain ⟨m7, f8⟩ := HAF.out _ kz
              by_cases hcc : cv = i + 1
              · subst hcc
                have hrun := (HCL.out ⟨gR, 0, none⟩ 0).1
                rw [show n - (i + 1) = 0 by omega] at hrun
                clear CL hlast hl2 i3 hAr htk RW2 AM2 hcm
                go_wp2_with fail
                go_region
                go_wp2_with fail
                go_ret
                rw [HE.out]
                exact HBZ.out _
              · have hrun := (HCL.out ⟨gR, (i + 1) * 4, none⟩ (cv - (i + 1))).1
                clear CL hlast hl2 i3 hAr htk RW2 AM2
                go_wp2_with fail
                go_region
                go_wp2_with fail
                go_ret
                rw [HE.out]
                exact HBZ.out _
            · have hl2 : i + 1 < rows.length := by have := HN.out; omega
              have hcc : ¬ cv = i + 1 := by omega
              obtain ⟨v', w7, hrun, RW7, k7, hob⟩ := cut_row (w := w2.drew) (cap := 0) (Go.Qm.Arr.drew hAr) hBg htk hB2 (by omega) hl2 (cv - (i + 1)) 76
              rw [← HN.out] at hrun
              obtain ⟨a7, cap7, rfl, -, -, -⟩ := RW7.read
              obtain ⟨m7, f8⟩ := HAF.out _ (kz.trans k7)
              have HBZ := Hid.mk (HNR.out w2.drew w7 _ kz (keep_grown k7 _) RW7 (Or.inr hob))
              clear hl2 i3 hAr htk RW2 AM2 hob RW7
              go_wp2_with fail
              go_region
              go_wp2_with fail
              go_ret
              rw [HE.out]
              exact HBZ.out _
          · have t3 : (rn == name) = false := by simpa using hnm
            have HE : Hid ((rows.take (i + 1)).any (matR o) = false) := Hid.mk (by rw [HA1.out, HNA.out, HMi.out, t1, t2, t3]; rfl)
            clear hnm hd hl
            go_wp2_with fail
            go_quiet (fail)
            have kw3 := hk2.out nq
            go_wp2_with fail
            go_roundg (gk - 1)
            case measure => have := HI8.out; omega
            case rel => exact ⟨i + 1, by have := HI8.out; omega, by go_num, HE.out, kw3⟩
        · have t2 : (rl == l) = false := by simpa using hl
          have HE : Hid ((rows.take (i + 1)).any (matR o) = false) := Hid.mk (by rw [HA1.out, HNA.out, HMi.out, t1, t2]; rfl)
          clear hd hl
          go_wp2_with fail
          go_quiet (fail)
          have kw3 := hk2.out nq
          go_wp2_with fail
          go_roundg (gk - 1)
          case measure => have := HI8.out; omega
          case rel => exact ⟨i + 1, by have := HI8.out; omega, by go_num, HE.out, kw3⟩
      · have t1 : (rd == d) = false := by simpa using hd
        have HE : Hid ((rows.take (i + 1)).any (matR o) = false) := Hid.mk (by rw [HA1.out, HNA.out, HMi.out, t1]; rfl)
        clear hd
        go_wp2_with fail
        go_quiet (fail)
        have kw3 := hk2.out nq
        go_wp2_with fail
        go_roundg (gk - 1)
        case measure => have := HI8.out; omega
        case rel => exact ⟨i + 1, by have := HI8.out; omega, by go_num, HE.out, kw3⟩
    · have j1 : ¬ (i : Int) < n := by omega
      have hin2 : i = rows.length := by have := HI8.out; have := HN.out; omega
      have HNA2 : Hid (rows.any (matR o) = false) := Hid.mk (by have := HNA.out; rw [hin2, HTL.out] at this; exact this)
      clear hin2
      go_wp2_with fail
      go_ret
      rw [HF4.out HNA2.out]
      exact MRet.of HW.out (K1.trans kw)
theorem mrem_c (o : OpV) (h : MW B fp w gm rows) (hlen : rows.length ≤ 65536) : Calls Try.prog 35 #[.pointer (some ⟨gm, 0, none⟩), .agg #[.int .i64 o.kind, .int .i64 o.dir, .int .i64 o.layer, str o.name, .int .i64 o.what]] w fun e w' => MRet B fp w gm (mremF rows o).2 (.returned (.int .i64 (mremF rows o).1)) e w' := by
  obtain ⟨kd, d, l, name, what⟩ := o
  cases hb : badR d l name with
  | false => exact mrem_ok kd d l what name h hb hlen
  | true =>
    refine (mrem_bad (.pointer (some ⟨gm, 0, none⟩)) kd d l what name w hb).mono ?_
    rintro e w' ⟨rfl, k⟩
    unfold mremF
    rw [if_pos hb]
    exact MRet.of h k
end
end Go.Proofs.Qxb6500766a
