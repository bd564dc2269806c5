/- mergem: StatOf, ReadAt. -/
import Derived.Test.Qxb6500767aTb
namespace Go.Proofs.Qxb6500767a
open Go.RowKit Go.Qm
set_option linter.unusedVariables false
set_option linter.unusedSimpArgs false
attribute [local go_sem ↓] Go.wp_at_zero Go.wp_at_succ
theorem s31 : (Try.prog.info? 31).map (·.size) = some 5 := by kernel_rfl
structure Sta where
  ino : Nat
  kind : Nat
  mode : Int
  links : Nat
  size : Nat
def staC (s : Sta) : List Value := [.int .i64 (s.ino : Nat), .int .i64 (s.kind : Nat), .int .i64 s.mode, .int .i64 (s.links : Nat), .int .i64 (s.size : Nat)]
def sta0 : Sta := ⟨0, 0, 0, 0, 0⟩
def statF (T : List Nd) (i : Nat) : Sta := ⟨i, (at' T i).kind, (at' T i).mode, (at' T i).links, if (at' T i).kind = 2 then (at' T i).edges.length else (at' T i).data.length⟩
set_option maxRecDepth 3000 in
set_option maxHeartbeats 2000000 in
theorem statOf_c (gt i : Nat) (T : List Nd) (w : World) (h : TR w gt T) (hi : i < T.length) :
    Calls Try.prog 59 #[.pointer (some ⟨gt, 0, none⟩), .int .i64 i] w fun e w' => e = .returned (.agg (staC (statF T i)).toArray) ∧ Keep w w' := by
  have K0 := (Keep.refl w).alloc (.cells #[.int .i64 0, .int .i64 0, .int .i64 0, .int .i64 0, .int .i64 0] 31)
  have h := h.keep K0
  obtain ⟨bn, cap, c0, h1, h2, h3⟩ := h
  obtain ⟨dv, ev, n0, n1, n2, n3, n4, n5, n6, hb, a, c, rfl, e1, e2, -⟩ := h3 i hi
  obtain ⟨da, dc, rfl, hdc, hdm, -⟩ := hb.form
  have i1 : (i : Int) < T.length := by omega
  have i2 : (0 : Int) ≤ i := by omega
  unfold maxLen at h2 e2 hdm
  have HS : Hid (statF T i = ⟨i, (at' T i).kind, (at' T i).mode, (at' T i).links, if (at' T i).kind = 2 then (at' T i).edges.length else (at' T i).data.length⟩) := Hid.mk rfl
  generalize statF T i = S at *
  generalize (at' T i).edges.length = el at *
  generalize (at' T i).data.length = dl at *
  generalize (at' T i).kind = kd at *
  generalize (at' T i).mode = md at *
  generalize (at' T i).links = lk at *
  generalize (at' T i).opens = op at *
  generalize (at' T i).par = pr at *
  clear h3 hb
  by_cases hk : kd = 2
  · have HS2 : Hid (S = ⟨i, 2, md, lk, el⟩) := Hid.mk (by rw [HS.out, if_pos hk, hk])
    subst hk
    go_enter Try.func59, Try.ntmps59
    go_wp2_with fail
    refine bodyPost_ret (v := .agg #[.int .i64 (i : Nat), .int .i64 2, .int .i64 md, .int .i64 (lk : Nat), .int .i64 (el : Nat)]) (results_cell_row (p := 4) (ty := 31) rfl _ _ w.heap.size 31 #[.int .i64 (i : Nat), .int .i64 2, .int .i64 md, .int .i64 (lk : Nat), .int .i64 (el : Nat)] (0, 0) _ rfl (heap_alloc2_old w _ _) Try.underlying31 rfl s31) rfl ⟨?_, ((Keep.refl w).alloc _).alloc _⟩
    rw [HS2.out]; rfl
  · have HS2 : Hid (S = ⟨i, kd, md, lk, dl⟩) := Hid.mk (by rw [HS.out, if_neg hk])
    have q1 : ((kd : Int) == 2) = false := by simp; omega
    clear hk
    go_enter Try.func59, Try.ntmps59
    go_wp2_with fail
    refine bodyPost_ret (v := .agg #[.int .i64 (i : Nat), .int .i64 (kd : Nat), .int .i64 md, .int .i64 (lk : Nat), .int .i64 (dl : Nat)]) (results_cell_row (p := 4) (ty := 31) rfl _ _ w.heap.size 31 #[.int .i64 (i : Nat), .int .i64 (kd : Nat), .int .i64 md, .int .i64 (lk : Nat), .int .i64 (dl : Nat)] (0, 0) _ rfl (heap_alloc2_old w _ _) Try.underlying31 rfl s31) rfl ⟨?_, ((Keep.refl w).alloc _).alloc _⟩
    rw [HS2.out]; rfl
/-- What ReadAt gives. -/
def readF (data : List UInt8) (off n : Nat) : List UInt8 := (data.drop off).take n
theorem readF_step {data : List UInt8} {off k : Nat} (h : off + k < data.length) : readF data off (k + 1) = readF data off k ++ [data[off + k]] := by
  unfold readF
  rw [List.take_succ_eq_append_getElem (by rw [List.length_drop]; omega), List.getElem_drop]
set_option maxRecDepth 3000 in
set_option maxHeartbeats 2000000 in
theorem readAt_c (gt i off : Nat) (m : Int) (T : List Nd) (w : World) (h : TR w gt T) (hi : i < T.length) (hm : 0 ≤ m) (ho : off ≤ 10000000) (hd : (at' T i).data.length ≤ 1000000) :
    Calls Try.prog 77 #[.pointer (some ⟨gt, 0, none⟩), .int .i64 i, .int .i64 off, .int .i64 m] w fun e w' => e = .returned (str (readF (at' T i).data off m.toNat)) ∧ Keep w w' := by
  obtain ⟨bn, cap, c0, h1, h2, h3⟩ := h
  obtain ⟨dv, ev, -, -, -, -, -, n5, -, hb, -⟩ := h3 i hi
  obtain ⟨da, dc, rfl, hdc, hdm, hdca⟩ := hb.form
  have i1 : (i : Int) < T.length := by omega
  have i2 : (0 : Int) ≤ i := by omega
  unfold maxLen at h2 hdm
  obtain ⟨R, hR⟩ : ∃ R, R = readF (at' T i).data off m.toNat := ⟨_, rfl⟩
  rw [← hR]
  have HR := Hid.mk hR
  clear hR h3 hb
  generalize (at' T i).data = data at *
  obtain ⟨dl, hdl⟩ : ∃ dl, dl = data.length := ⟨_, rfl⟩
  rw [← hdl] at n5 hdc hd
  have HDL := Hid.mk hdl
  clear hdl
  go_enter Try.func77, Try.ntmps77
  go_wp2_with fail
  go_loopg [10, 11] (dl - off) (fun gk ov iv wr => ∃ (k p : Nat) (out : List UInt8), p = off + k ∧ gk = dl - p ∧ (k : Int) ≤ m ∧ (off + k ≤ dl ∨ k = 0) ∧ iv = .int .i64 p ∧ out = readF data off k ∧ out.length = k ∧ Own w.heap.size 5 wr ov (out.map cb) ∧ Keep w wr)
  case atStart => exact ⟨0, off, [], rfl, rfl, hm, Or.inr rfl, rfl, by simp [readF], rfl, World.ownsRow_nil _ _ _ _, Keep.refl _⟩
  case round => as_aux_lemma =>
    obtain ⟨k, p, out, hp, hgk, hkm, hko, rfl, hout, hol, oo, kw⟩ := hrel
    obtain ⟨oa, oc, hov, hoc, hom, -⟩ := oo.bs.form
    rw [hol] at hov hoc
    subst hov
    unfold maxLen at hom
    have cv := run_conv oo.bs
    have p0 : (0 : Int) ≤ p := by omega
    have hw := kw.size
    by_cases hlt : p < dl
    · have i3 : (p : Int) < dl := by omega
      by_cases hkl : (k : Int) < m
      · have hpd : p < data.length := by rw [← HDL.out]; exact hlt
        obtain ⟨b, o, rfl, hc⟩ := hdca p hpd
        replace hc := kw.cell hc
        have hpo : data[p] = data[off + k]'(by omega) := by simp only [hp]
        have HO : Hid (readF data off (k + 1) = out ++ [data[p]]) := Hid.mk (by rw [readF_step (by omega), hout, hpo])
        have HOL : Hid (out.length ≤ 2000000) := Hid.mk (by omega)
        have hpk : off + k < dl := by omega
        have HP := Hid.mk hp
        have HGK := Hid.mk hgk
        have HOLk := Hid.mk hol
        clear hout cv hdca hpo hp hgk hol
        generalize data[p] = x at *
        go_wp2_with (at_builtin; refine wpList_app (by rfl) _ _ _ (by rfl) Try.underlying64 inf5 rfl w.heap.size (oo.alloc _) (Own.lit (B := w.heap.size) [.int .u8 x.toNat] hw (by simp [maxLen])).sl (by simp [Value.oneCell']) (by rfl) (by rfl) (by have := HOL.out; simp [maxLen]; omega) (by have := HOL.out; simp; omega) (by simp; omega) ?_; intro v' w' hown' hgr hob)
        go_roundg (dl - (p + 1))
        case measure => have := HGK.out; omega
        case rel => exact ⟨k + 1, p + 1, out ++ [x], by have := HP.out; omega, rfl, by omega, Or.inl (by omega), by go_num, HO.out.symm, by simp [HOLk.out], by rw [List.map_append]; exact hown', (kw.alloc _).grown hgr (fun q hq => (oo.lt q hq).1)⟩
      · have hkl' : ¬ (k : Int) < m := hkl
        have HF : Hid (R = out) := Hid.mk (by rw [HR.out, hout]; congr 1; omega)
        clear hout HR hdca
        go_wp2_with fail
        go_ret
        rw [HF.out]
        exact ⟨rfl, kw⟩
    · have i3 : ¬ (p : Int) < dl := by omega
      have HF : Hid (R = out) := Hid.mk (by
        have := HDL.out
        rw [HR.out, hout]
        unfold readF
        rw [List.take_of_length_le (by rw [List.length_drop]; omega), List.take_of_length_le (by rw [List.length_drop]; omega)])
      clear hout HR hdca
      go_wp2_with fail
      go_ret
      rw [HF.out]
      exact ⟨rfl, kw⟩
end Go.Proofs.Qxb6500767a
