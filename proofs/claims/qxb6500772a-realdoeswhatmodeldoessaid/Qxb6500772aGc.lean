/- blastlaw: popN. -/
import Derived.Test.Qxb6500772aGb
import Derived.Deep.LoopGhost
namespace Go.Proofs.Qxb6500772a
open Go Go.RowKit Go.Qm
set_option linter.unusedVariables false
set_option linter.unusedSimpArgs false
attribute [local go_sem ↓] Go.wp_at_zero Go.wp_at_succ
theorem run_make31 (n : Nat) (hn : n ≤ 100000) (w : World) : ∃ cur : List Value, cur.length = n * 7 ∧ (Instr.makeSlice 29 (.int .i64 (n : Int)) (.int .i64 (n : Int))).run Try.prog w = .ok (.slice (some ⟨w.heap.size, 0, none⟩) n n) (w.alloc (.cells cur.toArray 31)) := by
  obtain ⟨i, hi', hz', hs, hby⟩ := info_parts inf31
  refine ⟨(madeCells (Value.agg (efC ⟨0, 0, 0, 0, 0, 0⟩ (.slice none 0 0)).toArray).cells ((n : Int).toNat * 7)).toList, by rw [Array.length_toList, size_madeCells, Int.toNat_natCast], ?_⟩
  rw [run_make w 29 31 i _ Try.underlying29 hi' hz' .i64 .i64 n n (by omega) (by omega) (by rw [hby]; omega) (by omega), hs, Int.toNat_natCast, Array.toArray_toList]
theorem BB.more {B : Nat} {P Q : Nat → Prop} {w : World} {gb : Nat} {cv xv sv pv nv : Value} {cels : List Cel} {es : List NE} {ss : List NS} {bad : NE} {cu nx : List (Int × Nat)} {cf : Bool} {nf : Int} (h : BB B P w gb cv xv sv pv nv cels es ss bad cu nx cf nf) (h1 : ∀ q, P q → Q q) (h2 : ∀ q, Q q → P q ∨ (B ≤ q ∧ q < w.heap.size ∧ q ≠ gb ∧ cv.ownBlock ≠ some q ∧ xv.ownBlock ≠ some q ∧ sv.ownBlock ≠ some q ∧ pv.ownBlock ≠ some q ∧ nv.ownBlock ≠ some q)) : BB B Q w gb cv xv sv pv nv cels es ss bad cu nx cf nf :=
  ⟨h.ar, h.lo, h.oc, h.oe, h.os, h.ou, h.on, h.hc, fun x hx => (h.he x hx).weak h1, fun x hx => (h.hs x hx).weak h1, h.hb.weak h1, h.hu, h.hn, h.hf, fun q hq => (h2 q hq).elim (h.sp q) id, h.un⟩
theorem BB.frN {B : Nat} {P : Nat → Prop} {w w' : World} {gb : Nat} {cv xv sv pv nv : Value} {cels : List Cel} {es : List NE} {ss : List NS} {bad : NE} {cu nx : List (Int × Nat)} {cf : Bool} {nf : Int} (h : BB B P w gb cv xv sv pv nv cels es ss bad cu nx cf nf) {R : Nat → Prop} (f : Fr R w w') (hr : ∀ q, R q → ¬ fpB gb cv xv sv pv nv q ∧ ¬ P q) : BB B P w' gb cv xv sv pv nv cels es ss bad cu nx cf nf := by
  have kp : KP P w w' := KP.fr f (fun q a e => (hr q e).2 a)
  refine ⟨f.arr (fun e => (hr gb e).1 (Or.inl rfl)) h.ar, h.lo, h.oc.fr f (fun q hq e => (hr q e).1 (Or.inr (Or.inl hq))), h.oe.fr f (fun q hq e => (hr q e).1 (Or.inr (Or.inr (Or.inl hq)))), h.os.fr f (fun q hq e => (hr q e).1 (Or.inr (Or.inr (Or.inr (Or.inl hq))))), h.ou.fr f (fun q hq e => (hr q e).1 (Or.inr (Or.inr (Or.inr (Or.inr (Or.inl hq)))))), h.on.fr f (fun q hq e => (hr q e).1 (Or.inr (Or.inr (Or.inr (Or.inr (Or.inr hq)))))), h.hc, fun x hx => (h.he x hx).step kp, fun x hx => (h.hs x hx).step kp, h.hb.step kp, h.hu, h.hn, h.hf, fun q hq => ?_, h.un⟩
  obtain ⟨s0, s1, s2⟩ := h.sp q hq
  exact ⟨s0, Nat.lt_of_lt_of_le s1 f.size, s2⟩
theorem BB.low {B : Nat} {P : Nat → Prop} {w : World} {gb : Nat} {cv xv sv pv nv : Value} {cels : List Cel} {es : List NE} {ss : List NS} {bad : NE} {cu nx : List (Int × Nat)} {cf : Bool} {nf : Int} (h : BB B P w gb cv xv sv pv nv cels es ss bad cu nx cf nf) : ∀ q, fpB gb cv xv sv pv nv q → q < w.heap.size := by
  intro q a
  rcases a with a | a | a | a | a | a
  · rw [a]; exact h.ar.lt
  · exact (h.oc.lt q a).2
  · exact (h.oe.lt q a).2
  · exact (h.os.lt q a).2
  · exact (h.ou.lt q a).2
  · exact (h.on.lt q a).2
set_option maxRecDepth 4000 in
set_option maxHeartbeats 4000000 in
theorem popN_c {B : Nat} {P : Nat → Prop} {w : World} {gb : Nat} {cv xv sv pv nv : Value} {cels : List Cel} {l ys : List NE} {ss : List NS} {bad : NE} {cu nx : List (Int × Nat)} {cf : Bool} {nf : Int} (h : BB B P w gb cv xv sv pv nv cels (l ++ ys) ss bad cu nx cf nf) (hl : l.length ≤ 90000) (hy : ys.length ≤ 1000) :
    Calls Try.prog 51 #[.pointer (some ⟨gb, 0, none⟩), .int .i64 ((ys.length : Nat) : Int)] w fun e w' => ∃ xv' gL, e = .returned (.slice (some ⟨gL, 0, none⟩) ys.length ys.length) ∧ xv'.ownBlock = xv.ownBlock ∧ w.heap.size ≤ gL ∧ Fr (fun q => q = gb) w w' ∧ BB B (fun q => P q ∨ q = gL) w' gb cv xv' sv pv nv cels l ss bad cu nx cf nf ∧ Rows (fun q => P q ∨ q = gL) w' (.slice (some ⟨gL, 0, none⟩) ys.length ys.length) 7 (ys.map neC) ∧ ELW (fun q => P q ∨ q = gL) w' (mkE ys) (ys.map neC) := by
  obtain ⟨cur0, hc0, hmk⟩ := run_make31 ys.length (by omega) w
  obtain ⟨W, hW⟩ : ∃ W, W = w.alloc (.cells cur0.toArray 31) := ⟨_, rfl⟩
  rw [← hW] at hmk
  have kW : Keep w W := by rw [hW]; exact (Keep.refl w).alloc _
  have aL : Arr W w.heap.size 31 cur0 := by rw [hW]; exact Arr.new w 31 _
  have HB0 := Hid.mk (h.keep kW)
  have HLOW := Hid.mk h.low
  have HHE : Hid (∀ x ∈ ys, NEok P w x) := Hid.mk (fun x hx => h.he x (List.mem_append_right _ hx))
  have HSP := Hid.mk h.sp
  have HLO := Hid.mk h.lo
  have hgbl := h.ar.lt
  have HAL := Hid.mk aL
  have HKW := Hid.mk kW
  have HC0 := Hid.mk hc0
  have hyi : (ys.length : Int) ≤ 1000 := by omega
  have wn : IntKind.i64.wrap ((ys.length : Int) - 1) = (ys.length : Int) - 1 := by rw [IntKind.wrap_i64]; omega
  generalize hgL : w.heap.size = gL at *
  have HGL := Hid.mk hgL
  clear h kW aL hc0 hgL hW
  go_enter Try.func51, Try.ntmps51
  go_wp2_with fail
  clear hmk wn
  go_loopg [6] ys.length (fun gk v6 wr => ∃ (xv' : Value) (cur : List Value), gk ≤ ys.length ∧ v6 = .int .i64 ((gk : Int) - 1) ∧ BB B P wr gb cv xv' sv pv nv cels (l ++ ys.take gk) ss bad cu nx cf nf ∧ xv'.ownBlock = xv.ownBlock ∧ Arr wr gL 31 cur ∧ cur.length = ys.length * 7 ∧ (∀ k (hk : k < ys.length), gk ≤ k → ∀ m < 7, cur[k * 7 + m]? = (neC ys[k])[m]?) ∧ Fr (fun q => q = gb) w wr)
  case atStart => exact ⟨xv, cur0, Nat.le_refl _, rfl, by rw [List.take_length]; exact HB0.out, rfl, HAL.out, HC0.out, fun k hk h2 => by omega, Fr.keep HKW.out⟩
  case round =>
    obtain ⟨xv', cur, hgk, rfl, hbb, hxo, hal, hcl, hcc, hfr⟩ := hrel
    have HBB := Hid.mk hbb
    have HAL := Hid.mk hal
    have HCL := Hid.mk hcl
    have HCC := Hid.mk hcc
    have HFR := Hid.mk hfr
    have HXO := Hid.mk hxo
    clear hbb hal hcl hcc hfr hxo
    by_cases hz : gk = 0
    · subst hz
      have j1 : ¬ (0 : Int) ≤ ((0 : Nat) : Int) - 1 := by omega
      go_wp2_with fail
      go_ret
      have hb := HBB.out
      rw [List.take_zero, List.append_nil] at hb
      have hs := HAL.out.lt
      have hlow : ∀ q, fpB gb cv xv' sv pv nv q → q < gL := fun p a => by
        refine HLOW.out p ?_
        rcases a with a | a | a | a
        · exact Or.inl a
        · exact Or.inr (Or.inl a)
        · exact Or.inr (Or.inr (Or.inl (by rw [← HXO.out]; exact a)))
        · exact Or.inr (Or.inr (Or.inr a))
      have hlo := HLO.out
      have hne : ∀ v : Value, (∀ q, v.ownBlock = some q → fpB gb cv xv' sv pv nv q) → v.ownBlock ≠ some gL := fun v hv e => by have := hlow gL (hv gL e); omega
      refine ⟨xv', gL, rfl, HXO.out, Nat.le_refl _, HFR.out, hb.more (fun q a => Or.inl a) (fun q a => ?_), ?_, mkE_ok (fun x hx => ((HHE.out x hx).step (KP.fr HFR.out (fun q a e => (HSP.out q a).2.2.1 e))).weak (fun q a => Or.inl a))⟩
      · rcases a with a | a
        · exact Or.inl a
        · subst a
          exact Or.inr ⟨by omega, hs, by omega, hne _ (fun q e => Or.inr (Or.inl e)), hne _ (fun q e => Or.inr (Or.inr (Or.inl e))), hne _ (fun q e => Or.inr (Or.inr (Or.inr (Or.inl e)))), hne _ (fun q e => Or.inr (Or.inr (Or.inr (Or.inr (Or.inl e))))), hne _ (fun q e => Or.inr (Or.inr (Or.inr (Or.inr (Or.inr e)))))⟩
      · refine ⟨some ⟨gL, 0, none⟩, ys.length, by simp, by simp, by simp [maxLen]; omega, fun i hi => ⟨gL, 0, rfl, Or.inr rfl, hs, fun j hj => ?_⟩⟩
        have hi2 : i < ys.length := by simpa using hi
        rw [Nat.zero_add, HAL.out.cell]
        exact (HCC.out i hi2 (Nat.zero_le _) j hj).trans (by simp)
    · obtain ⟨q, rfl⟩ : ∃ q, gk = q + 1 := ⟨gk - 1, by omega⟩
      have hql : q < ys.length := by omega
      have hsplit : l ++ ys.take (q + 1) = (l ++ ys.take q) ++ [ys[q]] := by rw [List.take_succ_eq_append_getElem hql, List.append_assoc]
      have hb := HBB.out
      rw [hsplit] at hb
      obtain ⟨ka, kc, hkx, -, -⟩ := (hb.he ys[q] (List.mem_append_right _ (List.mem_singleton.2 rfl))).2.1.form
      have HCP := Hid.mk (pop_c hb (by simp; omega))
      have HYQ : Hid (∀ m < 7, (neC ys[q])[m]? = (neC ys[q])[m]?) := Hid.mk (fun _ _ => rfl)
      obtain ⟨x, hx⟩ : ∃ x, x = ys[q] := ⟨_, rfl⟩
      rw [← hx] at hkx HCP
      have HX := Hid.mk hx
      rw [neC, efC, hkx] at HCP
      have HKX := Hid.mk hkx
      have e6 : (((q + 1 : Nat) : Int) - 1) = (q : Int) := by omega
      have j1 : (0 : Int) ≤ q := by omega
      have j2 : (q : Int) < ys.length := by omega
      rw [e6]
      clear hx hkx hb hsplit e6
      go_wp2_with fail
      refine HCP.out.mono ?_
      rintro e w4 ⟨xv4, rfl, hx4, bb4, fr4⟩
      have hglb : gb ≠ gL := by omega
      have a4 := fr4.arr (fun e => hglb e.symm) HAL.out
      have hcl := HCL.out
      have c0 : ∃ u, w4.cell? ⟨gL, q * 7, none⟩ = some u := ⟨_, (a4.cell (q * 7)).trans (List.getElem?_eq_getElem (by omega))⟩
      obtain ⟨u0, c0⟩ := c0
      have f0 := a4.frozen (q * 7)
      have c1 : ∃ u, w4.cell? ⟨gL, q * 7 + 1, none⟩ = some u := ⟨_, (a4.cell (q * 7 + 1)).trans (List.getElem?_eq_getElem (by omega))⟩
      obtain ⟨u1, c1⟩ := c1
      have f1 := a4.frozen (q * 7 + 1)
      have c2 : ∃ u, w4.cell? ⟨gL, q * 7 + 2, none⟩ = some u := ⟨_, (a4.cell (q * 7 + 2)).trans (List.getElem?_eq_getElem (by omega))⟩
      obtain ⟨u2, c2⟩ := c2
      have f2 := a4.frozen (q * 7 + 2)
      have c3 : ∃ u, w4.cell? ⟨gL, q * 7 + 3, none⟩ = some u := ⟨_, (a4.cell (q * 7 + 3)).trans (List.getElem?_eq_getElem (by omega))⟩
      obtain ⟨u3, c3⟩ := c3
      have f3 := a4.frozen (q * 7 + 3)
      have c4 : ∃ u, w4.cell? ⟨gL, q * 7 + 4, none⟩ = some u := ⟨_, (a4.cell (q * 7 + 4)).trans (List.getElem?_eq_getElem (by omega))⟩
      obtain ⟨u4, c4⟩ := c4
      have f4 := a4.frozen (q * 7 + 4)
      have c5 : ∃ u, w4.cell? ⟨gL, q * 7 + 5, none⟩ = some u := ⟨_, (a4.cell (q * 7 + 5)).trans (List.getElem?_eq_getElem (by omega))⟩
      obtain ⟨u5, c5⟩ := c5
      have f5 := a4.frozen (q * 7 + 5)
      have c6 : ∃ u, w4.cell? ⟨gL, q * 7 + 6, none⟩ = some u := ⟨_, (a4.cell (q * 7 + 6)).trans (List.getElem?_eq_getElem (by omega))⟩
      obtain ⟨u6, c6⟩ := c6
      have f6 := a4.frozen (q * 7 + 6)
      have wq : IntKind.i64.wrap ((q : Int) - 1) = (q : Int) - 1 := by rw [IntKind.wrap_i64]; omega
      have HA4 := Hid.mk a4
      have HBB4 := Hid.mk bb4
      have HF4 := Hid.mk fr4
      have HX4 := Hid.mk hx4
      clear a4 bb4 fr4 hx4 hcl
      go_wp2_with fail
      have F9 : Fr (fun q => q = gL) w4 _ := (Fr.setCell (P := fun q => q = gL) (p := ⟨gL, q * 7 + 6, none⟩) (Fr.setCell (P := fun q => q = gL) (p := ⟨gL, q * 7 + 5, none⟩) (Fr.setCell (P := fun q => q = gL) (p := ⟨gL, q * 7 + 4, none⟩) (Fr.setCell (P := fun q => q = gL) (p := ⟨gL, q * 7 + 3, none⟩) (Fr.setCell (P := fun q => q = gL) (p := ⟨gL, q * 7 + 2, none⟩) (Fr.setCell (P := fun q => q = gL) (p := ⟨gL, q * 7 + 1, none⟩) (Fr.setCell (P := fun q => q = gL) (p := ⟨gL, q * 7, none⟩) (Fr.refl (fun q => q = gL) w4) (Or.inl rfl) (.int .i64 x.f.k)) (Or.inl rfl) (.int .i64 x.f.w)) (Or.inl rfl) (.int .i64 x.f.o)) (Or.inl rfl) (.int .u64 (x.f.v : Nat))) (Or.inl rfl) (.int .i64 x.f.c)) (Or.inl rfl) (.int .i64 x.f.l)) (Or.inl rfl) (.slice ka x.kr.length kc))
      have A9 := (((((((HA4.out.set (q * 7) (.int .i64 x.f.k)).set (q * 7 + 1) (.int .i64 x.f.w)).set (q * 7 + 2) (.int .i64 x.f.o)).set (q * 7 + 3) (.int .u64 (x.f.v : Nat))).set (q * 7 + 4) (.int .i64 x.f.c)).set (q * 7 + 5) (.int .i64 x.f.l)).set (q * 7 + 6) (.slice ka x.kr.length kc))
      have HF9 := Hid.mk F9
      have HA9 := Hid.mk A9
      clear F9 A9
      go_roundg q
      case measure => omega
      case rel =>
        have hlow : ∀ p, fpB gb cv xv4 sv pv nv p → p < gL := fun p a => by
          refine HLOW.out p ?_
          rcases a with a | a | a | a
          · exact Or.inl a
          · exact Or.inr (Or.inl a)
          · exact Or.inr (Or.inr (Or.inl (by rw [← HXO.out, ← HX4.out]; exact a)))
          · exact Or.inr (Or.inr (Or.inr a))
        refine ⟨xv4, _, by omega, rfl, HBB4.out.frN HF9.out (fun p e => ⟨fun a => by have := hlow p a; have : p = gL := e; omega, fun a => by have := (HSP.out p a).2.1; have : p = gL := e; omega⟩), by rw [HX4.out, HXO.out], HA9.out, by simp [HCL.out], fun k hk hk2 m hm => ?_, fr_new (HFR.out.trans HF4.out) HF9.out (fun p e => by rw [show p = gL from e, HGL.out]; exact Nat.le_refl _)⟩
        by_cases e : k = q
        · subst e
          have hcl := HCL.out
          rw [← HX.out, neC, efC, HKX.out]
          have hm7 : m = 0 ∨ m = 1 ∨ m = 2 ∨ m = 3 ∨ m = 4 ∨ m = 5 ∨ m = 6 := by omega
          have hlq : k * 7 + 7 ≤ cur.length := by omega
          rcases hm7 with rfl | rfl | rfl | rfl | rfl | rfl | rfl <;> simp [List.getElem?_set] <;> omega
        · have h9 := HCC.out k hk (by omega) m hm
          rw [← h9]
          have d0 : k * 7 + m ≠ q * 7 := by omega
          have d1 : ∀ j, j < 7 → q * 7 + j ≠ k * 7 + m := fun j hj => by omega
          simp [List.getElem?_set, d1, Ne.symm d0]
end Go.Proofs.Qxb6500772a
