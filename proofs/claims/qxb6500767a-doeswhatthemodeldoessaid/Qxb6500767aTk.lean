/- mutatem: WriteAt. -/
import Derived.Test.Qxb6500767aTj
namespace Go.Qm
open Go Go.RowKit
theorem flat_same {α : Type} {f : α → List Value} : ∀ (l : List α) (i : Nat) (hi : i < l.length) (x' : α), f x' = f l[i] → (l.set i x').flatMap f = l.flatMap f
  | [], i, hi, _, _ => by simp at hi
  | y :: l, 0, hi, x', hx => by simp only [List.getElem_cons_zero] at hx; rw [List.set_cons_zero, List.flatMap_cons, List.flatMap_cons, hx]
  | y :: l, i + 1, hi, x', hx => by simp only [List.getElem_cons_succ] at hx; rw [List.set_cons_succ, List.flatMap_cons, List.flatMap_cons, flat_same l i (by simpa using hi) x' hx]
end Go.Qm
namespace Go.Proofs.Qxb6500767a
open Go.RowKit Go.Qm
set_option linter.unusedVariables false
set_option linter.unusedSimpArgs false
attribute [local go_sem ↓] Go.wp_at_zero Go.wp_at_succ
/-- An octet of the data of node i is written in place. -/
theorem TreeW.byte {B gt : Nat} {fp : Nat → Prop} {w : World} {T : List Nd} (h : TreeW B fp w gt T) {i : Nat} (hi : i < T.length) (hne : (at' T i).data ≠ []) (hkd : (at' T i).kind = 1) :
    ∃ bn cap gd dc, w.cell? ⟨gt, 0, none⟩ = some (.slice (some ⟨bn, 0, none⟩) T.length cap) ∧ T.length ≤ cap ∧ cap ≤ maxLen ∧ w.cell? ⟨bn, i * 7 + 5, none⟩ = some (.slice (some ⟨gd, 0, none⟩) (at' T i).data.length dc) ∧ (at' T i).data.length ≤ dc ∧ dc ≤ maxLen ∧ (∀ j, w.frozen? ⟨gd, j, none⟩ = false) ∧
      ∀ p x, p < (at' T i).data.length → (∃ u, w.cell? ⟨gd, p, none⟩ = some u) ∧ TreeW B fp (w.setCell ⟨gd, p, none⟩ (.int .u8 (UInt8.toNat x))) gt (T.set i { at' T i with data := (at' T i).data.set p x }) ∧ Stp fp fp w (w.setCell ⟨gd, p, none⟩ (.int .u8 (UInt8.toNat x))) := by
  obtain ⟨nv, L, h, rfl, rfl⟩ := h
  have hi' : i < L.length := by simpa using hi
  obtain ⟨bn, cap, cur, e, hB, hA, hc, hm, hl, ht⟩ := h.form
  obtain ⟨c0, c1, c2, c3, c4, c5, c6⟩ := h.row e hi'
  rw [at_map hi'] at hne hkd ⊢
  rcases ((h.data i hi').own hkd).win with ⟨-, h0⟩ | ⟨gd, dc, sp, hv, hBd, hw, hdc, hdm⟩
  · exact absurd h0 hne
  · rw [hv] at c5
    have hvb : vb L i false = some gd := by rw [vb_get hi']; show L[i].dv.ownBlock = _; rw [hv]; rfl
    refine ⟨bn, cap, gd, dc, by rw [h.tree.cell 0, e]; simp, by simpa using hc, hm, c5, by omega, hdm, fun j => hw.frozen j, fun p x hp => ?_⟩
    have F : Fr (fun q => q = gd) w (w.setCell ⟨gd, p, none⟩ (.int .u8 (UInt8.toNat x))) := (Fr.refl (fun q => q = gd) w).setCell (p := ⟨gd, p, none⟩) (Or.inl rfl) _
    have hob : nv.ownBlock ≠ some gd := (h.ap1 i false gd hvb).2
    have hset := hw.set (k := p) hp x (o := p) (by simp)
    have hO : Own B 5 (w.setCell ⟨gd, p, none⟩ (.int .u8 (UInt8.toNat x))) L[i].dv ((L[i].nd.data.set p x).map cb) := by
      have := Own.of_win (cap := dc) hBd hset (by rw [List.length_set]; exact hdc) hdm
      rw [List.length_set, ← hv] at this
      exact this
    have hrow : OwnS nodC 7 67 B (w.setCell ⟨gd, p, none⟩ (.int .u8 (UInt8.toNat x))) nv (L.set i ⟨{ L[i].nd with data := L[i].nd.data.set p x }, L[i].dv, L[i].ev⟩) := by
      have := h.rows.fr F (fun q hq e => hob (by rw [← e]; exact hq))
      unfold OwnS at this ⊢
      rw [List.length_set, flat_same (f := nodC) L i hi' ⟨{ L[i].nd with data := L[i].nd.data.set p x }, L[i].dv, L[i].ev⟩ rfl]
      exact this
    have hE : EdgO B (w.setCell ⟨gd, p, none⟩ (.int .u8 (UInt8.toNat x))) L[i].ev L[i].nd.edges := (h.edges i hi').fr F (fun q hq e => by
      subst e
      have := (h.ap2 i i true false q (by rw [vb_get hi']; exact hq) hvb).2
      cases this)
    have hnew : ∀ b q, (vl (⟨{ L[i].nd with data := L[i].nd.data.set p x }, L[i].dv, L[i].ev⟩ : Nm) b).ownBlock = some q → vb L i b = some q ∨ w.heap.size ≤ q := fun b q hq => Or.inl (by rw [vb_get hi']; cases b <;> exact hq)
    have t := h.repl hi' ⟨{ L[i].nd with data := L[i].nd.data.set p x }, L[i].dv, L[i].ev⟩ hrow F (fun q hq => Or.inr (Or.inl (by rw [hq]; exact hvb))) (Dat.of_own hO _) hE hnew (fun q a b => by
      have := (h.ap2 i i false true q (by rw [vb_get hi']; exact a) (by rw [vb_get hi']; exact b)).2
      cases this)
    have hfp : FPT gt nv (L.set i ⟨{ L[i].nd with data := L[i].nd.data.set p x }, L[i].dv, L[i].ev⟩) = FPT gt nv L := by
      funext q
      have hv2 : ∀ j b, vb (L.set i ⟨{ L[i].nd with data := L[i].nd.data.set p x }, L[i].dv, L[i].ev⟩) j b = vb L j b := by
        intro j b
        by_cases ej : j = i
        · subst ej
          rw [vb_get (by simpa using hi'), vb_get hi', List.getElem_set_self]
          cases b <;> rfl
        · unfold vb; rw [List.getElem?_set_ne (Ne.symm ej)]
      unfold FPT
      simp only [hv2]
    refine ⟨⟨_, hw.cell (k := p) (o := p) hp (by simp)⟩, ⟨nv, _, t, by rw [List.map_set], hfp.symm⟩, F.mono (fun q _ hq => Or.inr (Or.inr ⟨i, false, by rw [hq]; exact hvb⟩)), fun q a => Or.inl a⟩
def wrtD (d : List UInt8) (off : Nat) (s : List UInt8) : List UInt8 := d.take off ++ (s ++ d.drop (off + s.length))
theorem wrtD_length {d s : List UInt8} {off : Nat} (h : off + s.length ≤ d.length) : (wrtD d off s).length = d.length := by unfold wrtD; simp; omega
theorem wrtD_step {d s : List UInt8} {off k : Nat} (hk : k < s.length) (h : off + s.length ≤ d.length) : (wrtD d off (s.take k)).set (off + k) s[k] = wrtD d off (s.take (k + 1)) := by
  have h1 : (d.take off).length = off := by simp; omega
  have h2 : (s.take k).length = k := by simp; omega
  have h3 : (s.take (k + 1)).length = k + 1 := by simp; omega
  unfold wrtD
  rw [List.set_append_right _ _ (by omega), h1, Nat.add_sub_cancel_left, List.set_append_right _ _ (by omega), h2, Nat.sub_self, h3, List.drop_eq_getElem_cons (show off + k < d.length by omega), List.set_cons_zero, List.take_succ_eq_append_getElem hk, List.append_assoc]
  rfl
/-- The loop of WriteAt, on a file that is long enough. -/
def setD (T : List Nd) (i : Nat) (d : List UInt8) : List Nd := T.set i { at' T i with data := d }
theorem setD_set (T : List Nd) (i : Nat) (hi : i < T.length) (d d' : List UInt8) : setD (setD T i d) i d' = setD T i d' := by
  unfold setD; rw [at_set hi, List.set_set]
theorem setD_self (T : List Nd) (i : Nat) (hi : i < T.length) : setD T i (at' T i).data = T := by
  unfold setD; rw [at_get hi, List.set_getElem_self]
def writeT (T : List Nd) (i off : Nat) (s : List UInt8) : List Nd × Int :=
  if s = [] then (T, 0)
  else if off + s.length > (at' T i).data.length then
    if (resT T i (off + s.length)).2 ≠ 0 then (T, 14) else (setD T i (wrtD (rszD (at' T i).data (off + s.length)) off s), 0)
  else (setD T i (wrtD (at' T i).data off s), 0)
theorem setD_at (T : List Nd) (i : Nat) (hi : i < T.length) (d : List UInt8) : at' (setD T i d) i = { at' T i with data := d } := at_set hi _
theorem setD_length (T : List Nd) (i : Nat) (d : List UInt8) : (setD T i d).length = T.length := List.length_set
theorem resT_cases (T : List Nd) (i n : Nat) : ((resT T i n).2 = 0 ∧ (resT T i n).1 = setD T i (rszD (at' T i).data n)) ∨ ((resT T i n).2 = 14 ∧ (resT T i n).1 = T) := by
  unfold resT
  split
  · exact Or.inr ⟨rfl, rfl⟩
  · exact Or.inl ⟨rfl, rfl⟩
set_option maxRecDepth 3000 in
set_option maxHeartbeats 4000000 in
theorem writeAt_c (B gt i off : Nat) (s : List UInt8) (fp : Nat → Prop) (T : List Nd) (w : World) (h : TreeW B fp w gt T) (hi : i < T.length) (hT : T.length ≤ 1000000) (hU : usedB T ≤ 1000000) (ho : off ≤ 2 ^ 21) (hs : s.length ≤ 2 ^ 17) (hdl : (at' T i).data.length ≤ 2 ^ 22) (hkd : (at' T i).kind = 1) :
    Calls Try.prog 85 #[.pointer (some ⟨gt, 0, none⟩), .int .i64 i, .int .i64 off, str s] w fun e w' => RetT B fp w gt (writeT T i off s).1 (.returned (.int .i64 (writeT T i off s).2)) e w' := by
  obtain ⟨R, hR⟩ : ∃ R, R = writeT T i off s := ⟨_, rfl⟩
  rw [← hR]
  have HTW := Hid.mk h
  have HKD := Hid.mk hkd
  clear hkd
  by_cases hs0 : s = []
  · have HF : Hid (R = (T, 0)) := Hid.mk (by rw [hR, writeT, if_pos hs0])
    subst hs0
    clear hR
    go_enter Try.func85, Try.ntmps85
    go_wp2_with fail
    go_ret
    rw [HF.out]
    exact ⟨fp, rfl, HTW.out, Stp.refl _ _⟩
  · have hsl : s.length ≠ 0 := fun e => hs0 (List.eq_nil_of_length_eq_zero e)
    have q0 : ((s.length : Int) == 0) = false := by simp; omega
    obtain ⟨sl, hsl'⟩ : ∃ sl, sl = s.length := ⟨_, rfl⟩
    obtain ⟨bn, cap, dv, ev, c0, h1, h2, n5, -, od, -⟩ := h.fresh hi
    obtain ⟨da, dc, rfl, hdc, hdm, -⟩ := od.bs.form
    have RC := resize_c B gt i (off + s.length) fp T w h hi hT hU (by omega) hdl
    have HR1 : Hid (off + s.length > (at' T i).data.length → (resT T i (off + s.length)).2 ≠ 0 → R = (T, 14)) := Hid.mk (fun a b => by rw [hR, writeT, if_neg hs0, if_pos a, if_pos b])
    have HR2 : Hid (off + s.length > (at' T i).data.length → (resT T i (off + s.length)).2 = 0 → R = (setD T i (wrtD (rszD (at' T i).data (off + s.length)) off s), 0)) := Hid.mk (fun a b => by rw [hR, writeT, if_neg hs0, if_pos a, if_neg (by simpa using b)])
    have HR3 : Hid (¬ off + s.length > (at' T i).data.length → R = (setD T i (wrtD (at' T i).data off s), 0)) := Hid.mk (fun a => by rw [hR, writeT, if_neg hs0, if_neg a])
    have i1 : (i : Int) < T.length := by omega
    have i0 : (0 : Int) ≤ i := by omega
    have e1 : IntKind.i64.wrap ((off : Int) + s.length) = ((off + s.length : Nat) : Int) := by rw [IntKind.wrap_i64] <;> omega
    unfold maxLen at h2 hdm
    clear hR hs0 h od
    obtain ⟨dl, hdl'⟩ : ∃ dl, dl = (at' T i).data.length := ⟨_, rfl⟩
    rw [← hdl'] at n5 hdc hdl HR1 HR2 HR3
    obtain ⟨en, hen⟩ : ∃ en, en = off + s.length := ⟨_, rfl⟩
    rw [← hen] at RC HR1 HR2 HR3 e1
    have HEN := Hid.mk hen
    have HDL := Hid.mk hdl'
    have hen2 : en ≤ 2 ^ 22 := by omega
    clear hen hdl'
    go_enter Try.func85, Try.ntmps85
    go_upto_if 27 with fail
    have RES := resT_cases T i en
    obtain ⟨⟨T1, er⟩, hr1⟩ : ∃ r, r = resT T i en := ⟨_, rfl⟩
    rw [← hr1] at RC RES HR1 HR2
    simp only at RC RES HR1 HR2
    clear hr1
    go_cut [9] from 11 to 37 (fun _ wx => ∃ fp1 D1, TreeW B fp1 wx gt (setD T i D1) ∧ Stp fp fp1 w wx ∧ off + s.length ≤ D1.length ∧ R = (setD T i (wrtD D1 off s), 0))
    case first => as_aux_lemma =>
      by_cases hgt : en > dl
      · have z1 : (en : Int) > dl := by omega
        rcases RES with ⟨rfl, rfl⟩ | ⟨rfl, rfl⟩
        · have HF := Hid.mk (HR2.out hgt rfl)
          clear HR1 HR2 HR3
          go_wp2_with fail
          refine RC.mono ?_
          rintro e w1 ⟨fp1, rfl, t1, s1⟩
          go_wp2_with fail
          go_meet
          case rel => exact ⟨fp1, _, t1, s1, by rw [rszD_length]; exact Nat.le_of_eq HEN.out.symm, HF.out⟩
        · have HF := Hid.mk (HR1.out hgt (by decide))
          clear HR1 HR2 HR3
          go_wp2_with fail
          refine RC.mono ?_
          rintro e w1 ⟨fp1, rfl, t1, s1⟩
          go_wp2_with fail
          go_ret
          rw [HF.out]
          exact ⟨fp1, rfl, t1, s1⟩
      · have z1 : ¬ (en : Int) > dl := by omega
        have HF := Hid.mk (HR3.out hgt)
        clear HR1 HR2 HR3
        go_wp2_with fail
        go_meet
        case rel => exact ⟨fp, _, by rw [setD_self T i hi]; exact HTW.out, Stp.refl _ _, by have := HEN.out; have := HDL.out; omega, HF.out⟩
    case rest => as_aux_lemma =>
      obtain ⟨fp1, D1, t1, s1, hD1, hRF⟩ := hcut
      have HRF := Hid.mk hRF
      have HT1 := Hid.mk t1
      have HS1 := Hid.mk s1
      clear hRF t1 s1 c0 n5 RC RES HR1 HR2 HR3
      obtain ⟨W0, hW0⟩ : ∃ W0, W0 = wc := ⟨_, rfl⟩
      subst hW0
      go_wp2_with fail
      go_loopg [10] s.length (fun gk iv wr => ∃ k : Nat, k + gk = s.length ∧ iv = .int .i64 k ∧ TreeW B fp1 wr gt (setD T i (wrtD D1 off (s.take k))) ∧ Stp fp1 fp1 W0 wr)
      case atStart => exact ⟨0, Nat.zero_add _, rfl, by simpa [wrtD] using HT1.out, Stp.refl _ _⟩
      case round => as_aux_lemma =>
        obtain ⟨k, hk, rfl, tk, sk⟩ := hrel
        by_cases hlt : k < s.length
        · have j1 : (k : Int) < s.length := by omega
          have j0 : (0 : Int) ≤ k := by omega
          have hiD : i < (setD T i (wrtD D1 off (s.take k))).length := by rw [setD_length]; exact hi
          have hwl : (wrtD D1 off (s.take k)).length = D1.length := wrtD_length (by rw [List.length_take]; omega)
          have BY := tk.byte hiD (by rw [setD_at T i hi]; intro e; have e2 : (wrtD D1 off (s.take k)).length = 0 := (by rw [show wrtD D1 off (s.take k) = [] from e]; rfl); omega) (by rw [setD_at T i hi]; exact HKD.out)
          rw [setD_at T i hi, setD_length] at BY
          obtain ⟨bn, cap, gd, dc, c0, b1, b2, c5, b3, b4, fz, BW⟩ := BY
          rw [hwl] at c5 b3
          obtain ⟨⟨u, cu⟩, t2, s2⟩ := BW (off + k) s[k] (by rw [hwl]; omega)
          have ht2 : (setD T i (wrtD D1 off (s.take k))).set i { at' T i with data := (wrtD D1 off (s.take k)).set (off + k) s[k] } = setD T i (wrtD D1 off (s.take (k + 1))) := by
            rw [wrtD_step hlt hD1]
            unfold setD
            rw [List.set_set]
          simp only at t2
          rw [ht2] at t2
          have HT2 := Hid.mk t2
          have HS2 := Hid.mk (sk.trans s2)
          obtain ⟨p, hp⟩ : ∃ p, p = off + k := ⟨_, rfl⟩
          rw [← hp] at HT2 HS2 cu
          have hf := fz p
          have e3 : IntKind.i64.wrap ((off : Int) + k) = (p : Int) := by rw [IntKind.wrap_i64] <;> omega
          have pl : (p : Int) < D1.length := by omega
          have p0 : (0 : Int) ≤ p := by omega
          unfold maxLen at b2 b4
          clear BW t2 s2 ht2 tk sk fz hp hwl hiD
          go_wp2_with fail
          go_region
          go_wp2_with fail
          go_roundg (gk - 1)
          case measure => omega
          case rel => exact ⟨k + 1, by omega, by go_num, HT2.out.fr (P := fun _ => False) (Fr.keep ((Keep.refl _).drew)) (fun _ _ a => a), HS2.out.trans (Stp.keep (Keep.refl _).drew)⟩
        · have j1 : ¬ (k : Int) < s.length := by omega
          rw [List.take_of_length_le (by omega)] at tk
          have HTK := Hid.mk tk
          have HSK := Hid.mk sk
          clear tk sk
          go_wp2_with fail
          go_ret
          rw [HRF.out]
          exact ⟨fp1, rfl, HTK.out, HS1.out.trans HSK.out⟩
end Go.Proofs.Qxb6500767a
