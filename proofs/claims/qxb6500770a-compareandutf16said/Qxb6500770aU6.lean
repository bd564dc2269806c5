/- octetslaw.utf16OfPoints and the law CompareAndUTF16: their walks. -/
import Derived.Test.Qxb6500770aU5
import Derived.Test.Qxb6500770aScript
namespace Go.Proofs.Qxb6500770a
open Go.RowKit Go.Qm
set_option linter.unusedVariables false
set_option linter.unusedSimpArgs false

def spell : List Nat → List UInt8
  | [] => []
  | c :: r => sp8 c ++ spell r
theorem spell_append (a b : List Nat) : spell (a ++ b) = spell a ++ spell b := by
  induction a with
  | nil => rfl
  | cons c r ih => simp [spell, ih]
theorem spell_snoc (cs : List Nat) (c : Nat) : spell (cs ++ [c]) = spell cs ++ sp8 c := by rw [spell_append]; simp [spell]
theorem spell_length (cs : List Nat) : (spell cs).length ≤ 4 * cs.length := by
  induction cs with
  | nil => simp [spell]
  | cons c r ih =>
    have := sp8_pos c
    simp only [spell, List.length_append, List.length_cons]; omega
theorem u16s_length (cs : List Nat) : (u16s cs).length ≤ 4 * cs.length := by
  induction cs with
  | nil => simp [u16s]
  | cons c r ih =>
    have := sp16_length c
    simp only [u16s, List.length_append, List.length_cons]
    split at this <;> omega
theorem sc_spell : ∀ cs : List Nat, (∀ c ∈ cs, c ≤ 1114111) → (cs.all isSc = true → sc (spell cs) = some cs) ∧ (cs.all isSc = false → sc (spell cs) = none)
  | [], _ => by simp [spell, sc_nil]
  | c :: r, h => by
    have ih := sc_spell r (fun x hx => h x (List.mem_cons_of_mem _ hx))
    have hc := h c List.mem_cons_self
    cases hs : isSc c with
    | true =>
      simp only [List.all_cons, hs, Bool.true_and]
      refine ⟨fun ha => ?_, fun ha => ?_⟩
      · rw [spell, sc_app c _ hs, ih.1 ha]; rfl
      · rw [spell, sc_app c _ hs, ih.2 ha]; rfl
    | false =>
      simp only [List.all_cons, hs, Bool.false_and]
      refine ⟨fun ha => by simp at ha, fun _ => ?_⟩
      rw [spell]
      refine sc_none ?_ (dec_surrogate c _ hs hc)
      intro e
      have h1 := congrArg List.length e
      have h2 := sp8_pos c
      rw [List.length_append, List.length_nil] at h1
      omega

set_option maxRecDepth 10000 in
set_option maxHeartbeats 2000000 in
theorem points_c (v : Value) (l : List UInt8) (w : World) (hs : Bs w v l) (hl : l.length ≤ 100000) :
    Calls Try.prog 15 #[v] w fun e w' => e = .returned (.bool true) ∧ Keep w w' := by
  have hs0 := hs
  obtain ⟨a, c, rfl, hac, hcm, hca⟩ := hs.form
  unfold maxLen at hcm
  clear hca
  go_enter Try.func15, Try.ntmps15
  go_wp2_with fail
  go_loopw [3, 4, 5, 6] (fun v8 v16 cl iv wr => ∃ cs : List Nat, 3 * cs.length ≤ l.length ∧ iv = .int .i64 (3 * cs.length : Nat) ∧ cl = .bool (cs.all isSc) ∧ (∀ x ∈ cs, x ≤ 1114111) ∧
    Own w.heap.size 5 wr v8 ((spell cs).map cb) ∧ Own w.heap.size 5 wr v16 ((u16s (cs.filter isSc)).map cb) ∧ Keep w wr) (fun _ _ _ iv _ => l.length + 3 - (intOf iv).toNat)
  case atStart =>
    refine ⟨[], by simp, rfl, rfl, by simp, ?_, ?_, ((Keep.refl w).alloc _).alloc _⟩
    · exact (Own.lit [] (Nat.le_refl _) (by simp)).alloc _
    · have := Own.lit (B := w.heap.size) (e := 5) (w := w.alloc (.cells #[] 5)) [] (by simp) (by simp)
      simpa [u16s] using this
  case round =>
    obtain ⟨cs, hcs, rfl, rfl, hle, ow8, ow16, kw⟩ := hrel
    obtain ⟨k, hk⟩ : ∃ k, 3 * cs.length = k := ⟨_, rfl⟩
    have h8 := spell_length cs
    have h16 := u16s_length (cs.filter isSc)
    have hfl := List.length_filter_le isSc cs
    have hcsl : cs.length ≤ 100000 := by omega
    rw [hk] at hcs ⊢
    by_cases hlt : k + 3 ≤ l.length
    · have i1 : (k : Int) + 3 ≤ l.length := by omega
      have i2 : (k : Int) ≤ c := by omega
      have i3 : (k : Int) + 3 ≤ c := by omega
      have i4 : ¬ c = k := by omega
      have hpart := (hs0.keep kw).part (i := k) (j := k + 3) (by omega) hlt (a.map (·.add k)) (fun _ => rfl)
      have hn3 : ((l.drop k).take (k + 3 - k)).length = 3 := by simp; omega
      have hnb := num_lt ((l.drop k).take (k + 3 - k))
      rw [hn3] at hnb
      generalize (l.drop k).take (k + 3 - k) = s3 at *
      have HK := Hid.mk hk
      clear hk
      rw [show k + 3 - k = 3 by omega] at hpart
      go_wp2_with fail
      refine (number_c _ s3 wr hpart (by omega)).mono ?_
      rintro e w1 ⟨rfl, rfl⟩
      obtain ⟨x, hx⟩ : ∃ x, num s3 % 1114112 = x := ⟨_, rfl⟩
      have hxb : x ≤ 1114111 := by omega
      have hxi : ((num s3 : Nat) : Int) % 1114112 = (x : Int) := by omega
      have hnbi : ((num s3 : Nat) : Int) < 16777216 := by
        have : (256 : Nat) ^ 3 = 16777216 := by decide
        omega
      generalize num s3 = q at *
      have HXB := Hid.mk hxb
      have hxb2 : (x : Int) < 4000000 := by omega
      clear hx hxb hnb hn3
      have s8 := sp8_pos x
      go_wp2_with fail
      refine (spell8_c x w1 HXB.out).mono ?_
      rintro e w2 ⟨v2, rfl, ow2, k2⟩
      go_wp2_with fail
      refine (join_c _ _ (spell cs) (sp8 x) w2 (ow8.keep k2).bs ow2.bs (by omega)).mono ?_
      rintro e w3 ⟨v3, rfl, ow3, k3⟩
      go_wp2_with fail
      refine (isScalar_c x w3 (by omega)).mono ?_
      rintro e w4 ⟨rfl, rfl⟩
      have kw3 := (kw.trans k2).trans k3
      have ks := (kw.trans k2).size
      have hall : (cs ++ [x]).all isSc = (cs.all isSc && isSc x) := by simp
      have hle2 : ∀ y ∈ cs ++ [x], y ≤ 1114111 := fun y hy => by
        rcases List.mem_append.1 hy with h | h
        · exact hle y h
        · simp at h; subst h; exact HXB.out
      have hlen2 : 3 * (cs ++ [x]).length = k + 3 := by have := HK.out; simp; omega
      have HALL := Hid.mk hall
      have HLE := Hid.mk hle2
      have HLEN := Hid.mk hlen2
      clear hall hle2 hlen2 hle
      cases hsx : isSc x with
      | true =>
        have hfil : (cs ++ [x]).filter isSc = cs.filter isSc ++ [x] := by simp [hsx]
        have HF := Hid.mk hfil
        have HSX := Hid.mk hsx
        clear hfil hsx
        go_wp2_with fail
        refine (spell16_c x w4 HXB.out).mono ?_
        rintro e w5 ⟨v5, rfl, ow5, k5⟩
        go_wp2_with fail
        have s16 := sp16_length x
        refine (join_c _ _ (u16s (cs.filter isSc)) (sp16 x) w5 (ow16.keep ((k2.trans k3).trans k5)).bs ow5.bs (by split at s16 <;> omega)).mono ?_
        rintro e w6 ⟨v6, rfl, ow6, k6⟩
        go_wp2
        go_roundw
        case rel =>
          refine ⟨cs ++ [x], by rw [HLEN.out]; exact hlt, by rw [HLEN.out]; go_num, by rw [HALL.out, HSX.out, Bool.and_true], HLE.out, ?_, ?_, (kw3.trans k5).trans k6⟩
          · rw [spell_snoc]; exact (ow3.mono ks).keep (k5.trans k6)
          · rw [HF.out, u16s_snoc]; exact ow6.mono (kw3.trans k5).size
        case measure => simp [intOf]; omega
      | false =>
        have hfil : (cs ++ [x]).filter isSc = cs.filter isSc := by simp [hsx]
        have HF := Hid.mk hfil
        have HSX := Hid.mk hsx
        clear hfil hsx
        go_wp2
        go_roundw
        case rel =>
          refine ⟨cs ++ [x], by rw [HLEN.out]; exact hlt, by rw [HLEN.out]; go_num, by rw [HALL.out, HSX.out, Bool.and_false], HLE.out, ?_, ?_, kw3⟩
          · rw [spell_snoc]; exact ow3.mono ks
          · rw [HF.out]; exact ow16.keep (k2.trans k3)
        case measure => simp [intOf]; omega
    · have i1 : ¬ (k : Int) + 3 ≤ l.length := by omega
      have hsp := sc_spell cs hle
      have HSP := Hid.mk hsp
      clear hsp
      go_wp2_with fail
      have own0 : Own wr.heap.size 5 (wr.alloc (.cells #[] 5)) (.slice (some ⟨wr.heap.size, 0, none⟩) 0 0) (([] : List UInt8).map cb) := Own.lit [] (Nat.le_refl _) (by simp)
      cases hcl : cs.all isSc with
      | true =>
        have hfil : cs.filter isSc = cs := List.filter_eq_self.2 (fun y hy => (List.all_eq_true.1 hcl) y hy)
        rw [hfil] at ow16
        have HSC := Hid.mk (HSP.out.1 hcl)
        clear hfil hcl
        refine (appendUTF16_some wr _ _ [] (spell cs) cs _ ((Keep.refl wr).alloc _) ow8.bs own0 (by omega) (by simp) HSC.out).mono ?_
        rintro e w2 ⟨out, rfl, owo, k2, _⟩
        go_wp2_with fail
        refine (same_c _ _ (u16s cs) (u16s cs) w2 owo.bs (ow16.keep k2).bs).mono ?_
        rintro e w3 ⟨rfl, k3⟩
        rw [decide_eq_true rfl]
        go_wp2
        go_ret
        exact ⟨rfl, (kw.trans k2).trans k3⟩
      | false =>
        have HSC := Hid.mk (HSP.out.2 hcl)
        clear hcl
        refine (appendUTF16_none wr _ _ [] (spell cs) _ ((Keep.refl wr).alloc _) ow8.bs own0 (by omega) HSC.out).mono ?_
        rintro e w2 ⟨rfl, rfl⟩
        go_wp2
        go_ret
        exact ⟨rfl, kw.alloc _⟩

set_option maxRecDepth 10000 in
set_option maxHeartbeats 2000000 in
theorem compare_c (v : Value) (ss : List OpR) (w : World) (h : Script w v ss) :
    Calls Try.prog 4 #[v] w fun e w' => e = .returned (.bool true) ∧ Keep w w' := by
  have hS := h
  obtain ⟨a, c, rfl, hac, hcm, hca⟩ := h
  unfold maxLen at hcm
  go_enter Try.func4, Try.ntmps4
  go_wp2_with fail
  refine (small_c _ ss w hS).mono ?_
  rintro e w1 ⟨⟨b, rfl, hsm⟩, kw1⟩
  cases b with
  | false =>
    go_wp2
    go_ret
    exact ⟨rfl, kw1⟩
  | true =>
    obtain ⟨hn, hdat⟩ := hsm rfl
    clear hsm
    go_wp2_with fail
    go_loopw [3, 4] (fun lv iv wr => ∃ (k : Nat) (ll : List UInt8), k ≤ ss.length ∧ iv = .int .i64 k ∧ Bs wr lv ll ∧ Keep w wr) (fun _ i _ => ss.length - (intOf i).toNat)
    case atStart => exact ⟨0, [], by omega, rfl, (Own.lit (B := w1.heap.size) (e := 5) (w := w1) [] (Nat.le_refl _) (by simp)).bs, kw1.alloc _⟩
    case round =>
      obtain ⟨k, ll, hk, rfl, hlast, kw⟩ := hrel
      by_cases hlt : k < ss.length
      · obtain ⟨b, o, rfl, hop⟩ := hca k hlt
        obtain ⟨h0, h1, h2, h3, hnn, hb, hr⟩ := hop.keep kw
        have hdl := hdat ss[k] (List.getElem_mem hlt)
        generalize ss[k] = op at *
        obtain ⟨kind, off, n, dv, l⟩ := op
        simp only at h0 h1 h2 h3 hnn hb hr hdl
        have i1 : (k : Int) < ss.length := by omega
        obtain ⟨ad, cd, rfl, _, _, _⟩ := hb.form
        clear hca hop hdat h0 h1 h2 hnn hr
        go_wp2_with fail
        -- Equal(last, data) != Same(last, data)
        refine (equal_c _ _ ll l wr hlast hb).mono ?_
        rintro e w2 ⟨rfl, k2⟩
        go_wp2_with fail
        refine (same_c _ _ ll l w2 (hlast.keep k2) (hb.keep k2)).mono ?_
        rintro e w3 ⟨rfl, k3⟩
        have hsym : decide (l = ll) = decide (ll = l) := by
          by_cases hh : ll = l
          · rw [decide_eq_true hh, decide_eq_true hh.symm]
          · rw [decide_eq_false hh, decide_eq_false (fun e => hh e.symm)]
        have HSY := Hid.mk hsym
        clear hsym
        have hq : ∃ bq, decide (ll = l) = bq := ⟨_, rfl⟩
        obtain ⟨bq, hbq⟩ := hq
        rw [hbq]
        have HBQ := Hid.mk hbq
        clear hbq
        have hbn : (bq != bq) = false := by cases bq <;> rfl
        replace k3 := k2.trans k3
        go_wp2_with fail
        -- Equal(data, last) != Same(last, data)
        refine (equal_c _ _ l ll w3 (hb.keep k3) (hlast.keep k3)).mono ?_
        rintro e w4 ⟨rfl, k4⟩
        rw [HSY.out, HBQ.out]
        replace k4 := k3.trans k4
        go_wp2_with fail
        refine (same_c _ _ ll l w4 (hlast.keep k4) (hb.keep k4)).mono ?_
        rintro e w5 ⟨rfl, k5⟩
        rw [HBQ.out]
        replace k5 := k4.trans k5
        go_wp2_with fail
        -- Equal(data, Copy(data))
        refine (copy_c _ l w5 (hb.keep k5) (by omega)).mono ?_
        rintro e w6 ⟨v6, rfl, ow6, k6⟩
        replace k6 := k5.trans k6
        go_wp2_with fail
        refine (equal_c _ _ l l w6 (hb.keep k6) ow6.bs).mono ?_
        rintro e w7 ⟨rfl, k7⟩
        rw [decide_eq_true rfl]
        replace k7 := k6.trans k7
        go_wp2_with fail
        refine (octs_c _ l w7 (hb.keep k7) (by omega)).mono ?_
        rintro e w8 ⟨rfl, k8⟩
        replace k8 := k7.trans k8
        go_wp2_with fail
        refine (points_c _ l w8 (hb.keep k8) (by omega)).mono ?_
        rintro e w9 ⟨rfl, k9⟩
        replace k9 := k8.trans k9
        go_wp2
        go_roundw
        case rel => exact ⟨k + 1, l, by omega, by go_num, hb.keep k9, kw.trans k9⟩
        case measure => simp [intOf]; omega
      · have i1 : ¬ (k : Int) < ss.length := by omega
        go_wp2
        go_ret
        exact ⟨rfl, kw⟩
end Go.Proofs.Qxb6500770a
