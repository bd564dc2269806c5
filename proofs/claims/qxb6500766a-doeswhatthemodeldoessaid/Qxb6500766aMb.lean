/- foldindexm: add. -/
import Derived.Test.Qxb6500766aMa
import Derived.BigRegion
namespace Go.Proofs.Qxb6500766a
open Go Go.RowKit Go.Qm
set_option linter.unusedVariables false
set_option linter.unusedSimpArgs false
attribute [local go_sem ↓] Go.wp_at_zero Go.wp_at_succ
structure MW (B : Nat) (fp : Nat → Prop) (w : World) (gm : Nat) (rows : List Row) : Prop where
  ex : ∃ v, Arr w gm 78 [v] ∧ RowW B w v rows ∧ ∀ q, fp q ↔ (q = gm ∨ v.ownBlock = some q)
  gB : B ≤ gm
section
variable {B : Nat} {fp : Nat → Prop} {w w' : World} {gm : Nat} {rows : List Row}
theorem MW.fr (h : MW B fp w gm rows) {P : Nat → Prop} (k : Fr P w w') (hp : ∀ q, fp q → ¬ P q) : MW B fp w' gm rows := by
  obtain ⟨v, A, r, hf⟩ := h.ex
  exact ⟨⟨v, k.arr (hp gm ((hf gm).2 (Or.inl rfl))) A, r.fr k (fun q hq => hp q ((hf q).2 (Or.inr hq))), hf⟩, h.gB⟩
theorem MW.keep (h : MW B fp w gm rows) (k : Keep w w') : MW B fp w' gm rows := h.fr (P := fun _ => False) (Fr.keep k) (fun _ _ a => a)
theorem MW.lo (h : MW B fp w gm rows) {q : Nat} (hq : fp q) : B ≤ q ∧ q < w.heap.size := by
  obtain ⟨v, A, r, hf⟩ := h.ex
  rcases (hf q).1 hq with rfl | a
  · exact ⟨h.gB, A.lt⟩
  · exact (r.lt a).1
end
def sameDL (o : OpV) (r : Row) : Bool := (r.dir == o.dir) && (r.layer == o.layer)
def matR (o : OpV) (r : Row) : Bool := sameDL o r && (r.raw == o.name)
def heldN (o : OpV) (rows : List Row) : Nat := (rows.filter (sameDL o)).length
def maddF (rows : List Row) (o : OpV) : Int × List Row :=
  if badA o.dir o.layer o.name o.what = true then (1, rows) else if rows.any (matR o) = true then (2, rows) else if 12 ≤ heldN o rows then (3, rows) else (0, rows ++ [⟨o.dir, o.layer, o.name, o.what⟩])
def MRet (B : Nat) (fp : Nat → Prop) (w : World) (gm : Nat) (rows : List Row) (r e : Ending) (w' : World) : Prop := ∃ fp', e = r ∧ MW B fp' w' gm rows ∧ Stp fp fp' w w'
theorem MRet.of {B : Nat} {fp : Nat → Prop} {w w' : World} {gm : Nat} {rows : List Row} {r : Ending} (h : MW B fp w gm rows) (k : Keep w w') : MRet B fp w gm rows r r w' := ⟨fp, rfl, h.keep k, Stp.keep k⟩
theorem rows_apart {B : Nat} {w W w7 : World} {gm : Nat} {rows : List Row} {v : Value} (RW : RowW B w v rows) (k : Keep w W) (gr : W.grownBy w7 v.ownBlock) {q : Nat} {t : TypeId} {cs : List Value} (A : Arr W q t cs) (ht : t ≠ 112) : Arr w7 q t cs := by
  refine (gr.block q A.lt (fun e => ?_)).trans A
  obtain ⟨cur, hc⟩ := ((RW.keep k).lt e.symm).2
  exact ht (A.ty hc)
theorem MW.newRows {B : Nat} {fp : Nat → Prop} {w W w7 : World} {gm : Nat} {rows rows' : List Row} {v v' : Value} (hB : B ≤ gm) (Am : Arr w gm 78 [v]) (RW : RowW B w v rows) (hf : ∀ q, fp q ↔ (q = gm ∨ v.ownBlock = some q)) (k : Keep w W) (gr : W.grownBy w7 v.ownBlock) (RW7 : RowW B w7 v' rows') (hob : v'.ownBlock = v.ownBlock ∨ v'.ownBlock = some W.heap.size) (r : Ending) : MRet B fp w gm rows' r r (w7.setCell ⟨gm, 0, none⟩ v') := by
  have A7 : Arr w7 gm 78 [v] := rows_apart (gm := gm) RW k gr (Am.keep k) (by decide)
  have gs := grown_set (grown_refl w7 (some gm)) 0 v'
  refine ⟨fun q => q = gm ∨ v'.ownBlock = some q, rfl, ⟨⟨v', Go.Qm.Arr.set A7 0 v', RW7.fr (grown_fr gs) (fun q hq e => ?_), fun _ => Iff.rfl⟩, hB⟩, ⟨?_, ?_⟩⟩
  · subst e
    obtain ⟨cur, hc⟩ := (RW7.lt hq).2
    exact absurd (hc.ty A7) (by decide)
  · have f1 : Fr fp w w7 := (Fr.keep k).trans (Fr.grown gr (fun q hq => (hf q).2 (Or.inr hq)))
    exact f1.setCell (Or.inl ((hf gm).2 (Or.inl rfl))) v'
  · rintro q (a | a)
    · exact Or.inl ((hf q).2 (Or.inl a))
    · rcases hob with b | b
      · exact Or.inl ((hf q).2 (Or.inr (by rw [← b]; exact a)))
      · rw [b] at a
        cases a
        exact Or.inr k.size
theorem held_take {o : OpV} {rows : List Row} {i : Nat} (hi : i < rows.length) : heldN o (rows.take (i + 1)) = heldN o (rows.take i) + (if sameDL o rows[i] = true then 1 else 0) := by
  unfold heldN
  rw [List.take_succ_eq_append_getElem hi, List.filter_append, List.length_append]
  congr 1
  by_cases h : sameDL o rows[i] = true
  · rw [if_pos h]; simp [h]
  · rw [if_neg h]; simp [h]
theorem many_take {o : OpV} {rows : List Row} {i : Nat} (hi : i < rows.length) : (rows.take (i + 1)).any (matR o) = ((rows.take i).any (matR o) || matR o rows[i]) := by
  rw [List.take_succ_eq_append_getElem hi, List.any_append]
  simp
theorem many_at {o : OpV} {rows : List Row} {i : Nat} (hi : i < rows.length) (h : matR o rows[i] = true) : rows.any (matR o) = true := List.any_eq_true.2 ⟨_, List.getElem_mem hi, h⟩
section
variable {B : Nat} {fp : Nat → Prop} {w : World} {gm : Nat} {rows : List Row}
theorem madd_bad (p : Value) (kd d l what : Int) (name : List UInt8) (w : World) (hb : badA d l name what = true) :
    Calls Try.prog 34 #[p, .agg #[.int .i64 kd, .int .i64 d, .int .i64 l, str name, .int .i64 what]] w fun e w' => e = .returned (.int .i64 1) ∧ Keep w w' := by
  have DO := fun W => dirOK_c d W
  have LO := fun W => layerOK_c l W
  have K1 := (Keep.refl w).alloc (.cells #[.int .i64 kd, .int .i64 d, .int .i64 l, str name, .int .i64 what] 32)
  unfold badA at hb
  cases h1 : dirB d with
  | false =>
    rw [h1] at DO
    go_enter Try.func34, Try.ntmps34
    go_wp2_with fail
    refine (DO _).mono ?_
    rintro e w1 ⟨rfl, rfl⟩
    go_wp2_with fail
    go_ret
    exact ⟨rfl, K1⟩
  | true =>
    rw [h1] at DO
    cases h2 : layB l with
    | false =>
      rw [h2] at LO
      go_enter Try.func34, Try.ntmps34
      go_wp2_with fail
      refine (DO _).mono ?_
      rintro e w1 ⟨rfl, rfl⟩
      go_wp2_with fail
      refine (LO _).mono ?_
      rintro e w1 ⟨rfl, rfl⟩
      go_wp2_with fail
      go_ret
      exact ⟨rfl, K1⟩
    | true =>
      rw [h2] at LO
      rw [h1, h2] at hb
      by_cases hn : name = []
      · subst hn
        go_enter Try.func34, Try.ntmps34
        go_wp2_with fail
        refine (DO _).mono ?_
        rintro e w1 ⟨rfl, rfl⟩
        go_wp2_with fail
        refine (LO _).mono ?_
        rintro e w1 ⟨rfl, rfl⟩
        go_wp2_with fail
        go_ret
        exact ⟨rfl, K1⟩
      · have n1 : (name == []) = false := by simpa using hn
        rw [n1] at hb
        by_cases hk : what < 1
        · clear hb
          go_enter Try.func34, Try.ntmps34
          go_wp2_with fail
          refine (DO _).mono ?_
          rintro e w1 ⟨rfl, rfl⟩
          go_wp2_with fail
          refine (LO _).mono ?_
          rintro e w1 ⟨rfl, rfl⟩
          go_wp2_with fail
          go_ret
          exact ⟨rfl, K1⟩
        · have hk4 : what > 4 := by
            rw [decide_eq_false hk] at hb
            simpa using hb
          clear hb
          go_enter Try.func34, Try.ntmps34
          go_wp2_with fail
          refine (DO _).mono ?_
          rintro e w1 ⟨rfl, rfl⟩
          go_wp2_with fail
          refine (LO _).mono ?_
          rintro e w1 ⟨rfl, rfl⟩
          go_wp2_with fail
          go_ret
          exact ⟨rfl, K1⟩
attribute [-go_sem] Go.Builtin.append_
set_option maxRecDepth 4000 in
set_option maxHeartbeats 4000000 in
theorem madd_ok (kd d l what : Int) (name : List UInt8) (h : MW B fp w gm rows) (hb : badA d l name what = false) (hlen : rows.length ≤ 65536) :
    Calls Try.prog 34 #[.pointer (some ⟨gm, 0, none⟩), .agg #[.int .i64 kd, .int .i64 d, .int .i64 l, str name, .int .i64 what]] w fun e w' => MRet B fp w gm (maddF rows ⟨kd, d, l, name, what⟩).2 (.returned (.int .i64 (maddF rows ⟨kd, d, l, name, what⟩).1)) e w' := by
  obtain ⟨hdi, hla, hne, hw1, hw4⟩ := badA_no hb
  have DO := fun W => dirOK_c d W
  have LO := fun W => layerOK_c l W
  rw [hdi] at DO
  rw [hla] at LO
  have n1 : (name == []) = false := by simpa using hne
  have n2 : ¬ what < 1 := by omega
  have n3 : ¬ what > 4 := by omega
  have K1 := (Keep.refl w).alloc (.cells #[.int .i64 kd, .int .i64 d, .int .i64 l, str name, .int .i64 what] 32)
  have O1 := Arr.new w 32 [.int .i64 kd, .int .i64 d, .int .i64 l, str name, .int .i64 what]
  obtain ⟨o, ho⟩ : ∃ o : OpV, o = ⟨kd, d, l, name, what⟩ := ⟨_, rfl⟩
  rw [← ho]
  have HHT : Hid (∀ i (hi : i < rows.length), heldN o (rows.take (i + 1)) = heldN o (rows.take i) + (if sameDL o rows[i] = true then 1 else 0)) := Hid.mk (fun i hi => held_take hi)
  have HAT : Hid (∀ i (hi : i < rows.length), (rows.take (i + 1)).any (matR o) = ((rows.take i).any (matR o) || matR o rows[i])) := Hid.mk (fun i hi => many_take hi)
  have HF2 : Hid (rows.any (matR o) = true → maddF rows o = (2, rows)) := Hid.mk (fun q => by unfold maddF; rw [if_neg (by rw [ho]; simp [hb]), if_pos q])
  have HF3 : Hid (rows.any (matR o) = false → 12 ≤ heldN o rows → maddF rows o = (3, rows)) := Hid.mk (fun q q2 => by unfold maddF; rw [if_neg (by rw [ho]; simp [hb]), if_neg (by simp [q]), if_pos q2])
  have HF0 : Hid (rows.any (matR o) = false → ¬ 12 ≤ heldN o rows → maddF rows o = (0, rows ++ [⟨d, l, name, what⟩])) := Hid.mk (fun q q2 => by unfold maddF; rw [if_neg (by rw [ho]; simp [hb]), if_neg (by simp [q]), if_neg q2, ho])
  have HS : Hid (∀ r, sameDL o r = ((r.dir == d) && (r.layer == l))) := Hid.mk (fun r => by rw [ho]; rfl)
  have HM : Hid (∀ r, matR o r = (((r.dir == d) && (r.layer == l)) && (r.raw == name))) := Hid.mk (fun r => by rw [ho]; rfl)
  have HW := Hid.mk h
  obtain ⟨v, Am, RW, hf⟩ := h.ex
  obtain ⟨av, cv, rfl, hcv, hcm, hca⟩ := RW.read
  have HCA := Hid.mk hca
  have HLE : Hid (∀ i, heldN o (rows.take i) ≤ 65536) := Hid.mk (fun i => by
    unfold heldN
    refine Nat.le_trans (List.length_filter_le _ _) ?_
    rw [List.length_take]; omega)
  have HTL : Hid (rows.take rows.length = rows) := Hid.mk List.take_length
  have HAM := Hid.mk Am
  have HRW := Hid.mk RW
  have HFF := Hid.mk hf
  obtain ⟨n, hn⟩ : ∃ n, n = rows.length := ⟨_, rfl⟩
  rw [← hn] at hcv hlen Am
  have HN := Hid.mk hn
  have c0 := Go.Qm.Arr.cell Am 0
  simp only [List.getElem?_cons_zero] at c0
  have hBs : B ≤ w.heap.size := Nat.le_trans HW.out.gB (Nat.le_of_lt Am.lt)
  have gml := Am.lt
  clear h ho hb hdi hla hne hw1 hw4 hn hca RW hf
  go_enter Try.func34, Try.ntmps34
  go_wp2_with fail
  refine (DO _).mono ?_
  rintro e w1 ⟨rfl, rfl⟩
  go_wp2_with fail
  refine (LO _).mono ?_
  rintro e w1 ⟨rfl, rfl⟩
  go_wp2_with fail
  generalize hW1 : w.alloc (.cells #[.int .i64 kd, .int .i64 d, .int .i64 l, str name, .int .i64 what] 32) = w1 at *
  clear hW1 DO LO n1 n2 n3
  obtain ⟨gO, hgo⟩ : ∃ g, g = w.heap.size := ⟨_, rfl⟩
  rw [← hgo] at O1 ⊢
  have HGO := Hid.mk hgo
  have HC : Hid (∀ W, Keep w1 W → W.cell? ⟨gm, 0, none⟩ = some (.slice av n cv) ∧ W.cell? ⟨gO, 1, none⟩ = some (.int .i64 d) ∧ W.cell? ⟨gO, 2, none⟩ = some (.int .i64 l) ∧ W.cell? ⟨gO, 3, none⟩ = some (str name) ∧ W.cell? ⟨gO, 4, none⟩ = some (.int .i64 what)) := Hid.mk (fun W k => ⟨(K1.trans k).cell c0, (Go.Qm.Arr.cell (O1.keep k) 1), (Go.Qm.Arr.cell (O1.keep k) 2), (Go.Qm.Arr.cell (O1.keep k) 3), (Go.Qm.Arr.cell (O1.keep k) 4)⟩)
  have HO1 := Hid.mk O1
  clear hgo c0 O1
  go_loopg [5, 6] n (fun gk hv iv wr => ∃ i : Nat, i + gk = n ∧ iv = .int .i64 i ∧ hv = .int .i64 (heldN o (rows.take i) : Nat) ∧ (rows.take i).any (matR o) = false ∧ Keep w1 wr)
  case atStart => exact ⟨0, by omega, rfl, rfl, rfl, Keep.refl _⟩
  case round =>
    obtain ⟨i, hi8, rfl, rfl, hna, kw⟩ := hrel
    have HI8 := Hid.mk hi8
    have HNA := Hid.mk hna
    clear hi8 hna
    obtain ⟨m0, o1, o2, o3, o4⟩ := HC.out wr kw
    by_cases hin : i < n
    · have j1 : (i : Int) < n := by omega
      have hir : i < rows.length := by have := HN.out; omega
      obtain ⟨gR, rfl, hgR, hr⟩ := HCA.out i hir
      have HR := Hid.mk hr
      obtain ⟨r0, r1, r2, r3⟩ := hr wr ((K1.trans kw).block gR hgR)
      have HH1 := Hid.mk (HHT.out i hir)
      have HA1 := Hid.mk (HAT.out i hir)
      have HSi := Hid.mk (HS.out rows[i])
      have HMi := Hid.mk (HM.out rows[i])
      have HAI := Hid.mk (fun q => many_at (o := o) hir q)
      have hhl := HLE.out i
      clear hr r3
      generalize rows[i] = r at *
      obtain ⟨rd, rl, rn, rk⟩ := r
      simp only at r0 r1 r2 HSi HMi HR
      generalize hHH : heldN o (rows.take i) = H at *
      clear hHH
      have hk2 : Hid (∀ nq, Keep w1 (wr.drewN nq)) := Hid.mk (fun nq => kw.drewN nq)
      by_cases hd : rd = d
      · have t1 : (rd == d) = true := by simpa using hd
        by_cases hl : rl = l
        · have t2 : (rl == l) = true := by simpa using hl
          clear hd hl
          go_wp2_with fail
          go_quiet (fail)
          have kw2 := hk2.out nq
          generalize wr.drewN nq = w2 at *
          clear m0 o1 o2 o3 o4 r0 r1 r2 hk2
          obtain ⟨m0, o1, o2, o3, o4⟩ := HC.out w2 kw2
          obtain ⟨r0, r1, r2, r3⟩ := HR.out w2 ((K1.trans kw2).block gR hgR)
          have hk3 : Hid (∀ nq, Keep w1 (w2.drewN nq)) := Hid.mk (fun nq => kw2.drewN nq)
          by_cases hnm : rn = name
          · have t3 : (rn == name) = true := by simpa using hnm
            have HE : Hid (rows.any (matR o) = true) := Hid.mk (HAI.out (by rw [HMi.out, t1, t2, t3]; rfl))
            clear hnm
            go_wp2_with fail
            go_quiet (fail)
            have kw3 := hk3.out nq
            go_wp2_with fail
            go_ret
            rw [HF2.out HE.out]
            exact MRet.of HW.out (K1.trans kw3)
          · have t3 : (rn == name) = false := by simpa using hnm
            have HE : Hid ((rows.take (i + 1)).any (matR o) = false ∧ heldN o (rows.take (i + 1)) = H + 1) := Hid.mk ⟨by rw [HA1.out, HNA.out, HMi.out, t1, t2, t3]; rfl, by rw [HH1.out, if_pos (by rw [HSi.out, t1, t2]; rfl)]⟩
            clear hnm
            go_wp2_with fail
            go_quiet (fail)
            have kw3 := hk3.out nq
            go_wp2_with fail
            go_roundg (gk - 1)
            case measure => have := HI8.out; omega
            case rel => exact ⟨i + 1, by have := HI8.out; omega, by go_num, by rw [HE.out.2]; go_num, HE.out.1, kw3⟩
        · have t2 : (rl == l) = false := by simpa using hl
          have HE : Hid ((rows.take (i + 1)).any (matR o) = false ∧ heldN o (rows.take (i + 1)) = H) := Hid.mk ⟨by rw [HA1.out, HNA.out, HMi.out, t1, t2]; rfl, by rw [HH1.out, if_neg (by rw [HSi.out, t1, t2]; simp)]; rfl⟩
          clear hd hl
          go_wp2_with fail
          go_quiet (fail)
          have kw3 := hk2.out nq
          go_wp2_with fail
          go_roundg (gk - 1)
          case measure => have := HI8.out; omega
          case rel => exact ⟨i + 1, by have := HI8.out; omega, by go_num, by rw [HE.out.2], HE.out.1, kw3⟩
      · have t1 : (rd == d) = false := by simpa using hd
        have HE : Hid ((rows.take (i + 1)).any (matR o) = false ∧ heldN o (rows.take (i + 1)) = H) := Hid.mk ⟨by rw [HA1.out, HNA.out, HMi.out, t1]; rfl, by rw [HH1.out, if_neg (by rw [HSi.out, t1]; simp)]; rfl⟩
        clear hd
        go_wp2_with fail
        go_quiet (fail)
        have kw3 := hk2.out nq
        go_wp2_with fail
        go_roundg (gk - 1)
        case measure => have := HI8.out; omega
        case rel => exact ⟨i + 1, by have := HI8.out; omega, by go_num, by rw [HE.out.2], HE.out.1, kw3⟩
    · have j1 : ¬ (i : Int) < n := by omega
      have hin2 : i = rows.length := by have := HI8.out; have := HN.out; omega
      have HNA2 : Hid (rows.any (matR o) = false) := Hid.mk (by have := HNA.out; rw [hin2, HTL.out] at this; exact this)
      have HHE : Hid (heldN o (rows.take i) = heldN o rows) := Hid.mk (by rw [hin2, HTL.out])
      have hhl := HLE.out i
      generalize hHH : heldN o (rows.take i) = H at *
      clear hin2 hHH
      by_cases h12 : 12 ≤ H
      · have t1 : (H : Int) ≥ 12 := by omega
        have HE3 := Hid.mk (HF3.out HNA2.out (by rw [← HHE.out]; exact h12))
        clear h12
        go_wp2_with fail
        go_ret
        rw [HE3.out]
        exact MRet.of HW.out (K1.trans kw)
      · have t1 : ¬ (H : Int) ≥ 12 := by omega
        have HE0 := Hid.mk (HF0.out HNA2.out (by rw [← HHE.out]; exact h12))
        clear h12
        have RWw := HRW.out.keep (K1.trans kw)
        have AMw := HAM.out.keep (K1.trans kw)
        have hBw : B ≤ wr.heap.size := Nat.le_trans hBs (K1.trans kw).size
        have hrl : rows.length ≤ 65536 := by have := HN.out; omega
        have AP : ∀ W, Keep wr W → ∀ g, Arr W g 112 [.int .i64 d, .int .i64 l, str name, .int .i64 what] → ∃ v' w', (Builtin.append_ #[76, 76] 76 #[.slice av n cv, .slice (some ⟨g, 0, none⟩) 1 1]).run Try.prog W = .ok v' w' ∧ RowW B w' v' (rows ++ [⟨d, l, name, what⟩]) ∧ W.grownBy w' (Value.slice av n cv).ownBlock ∧ (v'.ownBlock = (Value.slice av n cv).ownBlock ∨ v'.ownBlock = some W.heap.size) := fun W k g hg => by
          rw [HN.out]
          exact app_row (RWw.keep k) g ⟨d, l, name, what⟩ hg (Nat.le_trans hBw k.size) (by omega) 76
        have HAP := Hid.mk AP
        clear AP
        have HKP : Hid (∀ W w7 : World, Keep wr W → W.grownBy w7 (Value.slice av n cv).ownBlock → Arr w7 gm 78 [.slice av n cv] ∧ Arr w7 gO 32 [.int .i64 kd, .int .i64 d, .int .i64 l, str name, .int .i64 what]) := Hid.mk (fun W w7 k gr => by
          rw [HN.out] at gr ⊢
          exact ⟨rows_apart (gm := gm) HRW.out ((K1.trans kw).trans k) gr (AMw.keep k) (by decide), rows_apart (gm := gm) HRW.out ((K1.trans kw).trans k) gr (HO1.out.keep (kw.trans k)) (by decide)⟩)
        have HNR := Hid.mk (fun W w7 v' (k : Keep wr W) (gr : W.grownBy w7 (Value.slice av rows.length cv).ownBlock) RW7 hob r => MW.newRows (rows' := rows ++ [⟨d, l, name, what⟩]) (v' := v') HW.out.gB HAM.out HRW.out HFF.out ((K1.trans kw).trans k) gr RW7 hob r)
        clear RWw AMw
        obtain ⟨v', w7, hrun, RW7, gr7, hob⟩ := HAP.out (wr.alloc (.cells #[.int .i64 d, .int .i64 l, str name, .int .i64 what] 112)).drew ((Keep.refl wr).alloc _).drew wr.heap.size (Go.Qm.Arr.drew (Arr.new wr 112 [.int .i64 d, .int .i64 l, str name, .int .i64 what]))
        obtain ⟨a7, cap7, rfl, -, -, -⟩ := RW7.read
        obtain ⟨A7, O7⟩ := HKP.out _ w7 ((Keep.refl wr).alloc _).drew gr7
        have c7 := Go.Qm.Arr.cell A7 0
        have f7 := Go.Qm.Arr.frozen A7 0
        simp only [List.getElem?_cons_zero, List.getElem?_cons_succ] at c7
        have k5 := (Keep.refl wr).alloc (.cells #[.int .i64 d, .int .i64 l, str name, .int .i64 what] 112)
        have m0' := k5.cell m0
        have o1' := k5.cell o1
        have o2' := k5.cell o2
        have o3' := k5.cell o3
        have o4' := k5.cell o4
        go_wp2_with fail
        go_region
        go_wp2_with fail
        go_ret
        rw [HE0.out]
        rw [HN.out] at gr7 hob
        have NR := HNR.out _ w7 _ ((Keep.refl wr).alloc _).drew gr7 RW7 hob (.returned (.int .i64 0))
        rw [List.length_append, List.length_singleton] at NR
        exact NR
theorem madd_c (o : OpV) (h : MW B fp w gm rows) (hlen : rows.length ≤ 65536) : Calls Try.prog 34 #[.pointer (some ⟨gm, 0, none⟩), .agg #[.int .i64 o.kind, .int .i64 o.dir, .int .i64 o.layer, str o.name, .int .i64 o.what]] w fun e w' => MRet B fp w gm (maddF rows o).2 (.returned (.int .i64 (maddF rows o).1)) e w' := by
  obtain ⟨kd, d, l, name, what⟩ := o
  cases hb : badA d l name what with
  | false => exact madd_ok kd d l what name h hb hlen
  | true =>
    refine (madd_bad (.pointer (some ⟨gm, 0, none⟩)) kd d l what name w hb).mono ?_
    rintro e w' ⟨rfl, k⟩
    unfold maddF
    rw [if_pos hb]
    exact MRet.of h k
end
end Go.Proofs.Qxb6500766a
