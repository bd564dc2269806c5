/- blast: a word and a bit; binary. -/
import Derived.Test.Qxb6500772aDc
namespace Go.Proofs.Qxb6500772a
open Go.RowKit Go.Qm
set_option linter.unusedVariables false
set_option linter.unusedSimpArgs false
attribute [local go_sem ↓] Go.wp_at_zero Go.wp_at_succ
/-- A call answers a word and a bit. -/
def RVB (B : Nat) (X P : Nat → Prop) (gB : Nat) (cv : Value) (gc : Nat) (gv : Value) (w : World) (G : List Gate) (n k wd : Nat) (f : WF) (d : BF) (e : Ending) (w' : World) : Prop :=
  ∃ gv' G' l a c b, e = .returned (.tuple #[.slice a wd c, .int .i64 ((b : Nat) : Int)]) ∧ BS B X P w' gB cv gc gv' G' n ∧ Stp (fpC gc gv) (fpC gc gv') w w' ∧ Ext k G G' ∧ WO (fpX gc gv' X) w' (.slice a wd c) l ∧ Wv G' l wd f ∧ Bt G' b d
theorem tb_not {w x : Nat} (h : x < 2 ^ w) (i : Nat) : (2 ^ w - 1 - x).testBit i = (decide (i < w) && !x.testBit i) := by
  rw [show 2 ^ w - 1 - x = 2 ^ w - (x + 1) by omega]
  exact Nat.testBit_two_pow_sub_succ h i
theorem tb_hi {w x : Nat} (h : x < 2 ^ w) {i : Nat} (hi : ¬ i < w) : x.testBit i = false := Nat.testBit_lt_two_pow (Nat.lt_of_lt_of_le h (Nat.pow_le_pow_right (by decide) (by omega)))
theorem not_lt (w x : Nat) : 2 ^ w - 1 - x < 2 ^ w := by have := Nat.two_pow_pos w; omega
theorem or_nots {w x y : Nat} (hx : x < 2 ^ w) (hy : y < 2 ^ w) : 2 ^ w - 1 - ((2 ^ w - 1 - x) &&& (2 ^ w - 1 - y)) = x ||| y := by
  apply Nat.eq_of_testBit_eq
  intro i
  rw [tb_not (Nat.and_lt_two_pow _ (not_lt w y)), Nat.testBit_and, tb_not hx, tb_not hy, Nat.testBit_or]
  by_cases h : i < w
  · simp [h]
  · simp [h, tb_hi hx h, tb_hi hy h]
theorem xor_nots {w x y : Nat} (hx : x < 2 ^ w) (hy : y < 2 ^ w) : (2 ^ w - 1 - (x &&& y)) &&& (2 ^ w - 1 - ((2 ^ w - 1 - x) &&& (2 ^ w - 1 - y))) = x ^^^ y := by
  rw [or_nots hx hy]
  apply Nat.eq_of_testBit_eq
  intro i
  rw [Nat.testBit_and, tb_not (Nat.and_lt_two_pow _ hy), Nat.testBit_and, Nat.testBit_or, Nat.testBit_xor]
  by_cases h : i < w
  · simp [h]; cases x.testBit i <;> cases y.testBit i <;> rfl
  · simp [h, tb_hi hx h, tb_hi hy h]
theorem Bt.word {G : List Gate} {b : Nat} {F : BF} (h : Bt G b F) : Wv G [b] 1 (fun i => (F i).toNat) := by
  refine ⟨rfl, fun i hi => ?_, fun inp => by cases F inp <;> decide⟩
  obtain rfl : i = 0 := by simpa using hi
  refine h.congr (fun inp => ?_)
  cases F inp <;> rfl
section
variable {B : Nat} {X P : Nat → Prop} {w : World} {gB : Nat} {cv : Value} {gc : Nat} {gv : Value} {G : List Gate} {n : Nat}
theorem BS.lit (h : BS B X P w gB cv gc gv G n) (b : Nat) : WO (fpX gc gv X) (w.alloc (.cells #[.int .i64 (b : Nat)] 46)) (.slice (some ⟨w.heap.size, 0, none⟩) 1 1) [b] := by
  have A := Arr.new w 46 [.int .i64 (b : Nat)]
  refine ⟨⟨some ⟨w.heap.size, 0, none⟩, 1, rfl, Nat.le_refl _, by simp [maxLen], fun i u hu => ⟨w.heap.size, 0, rfl, ?_⟩⟩, fun q hq => ?_⟩
  · rw [Nat.zero_add, A.cell]; exact hu
  · obtain rfl : w.heap.size = q := by simpa [Value.ownBlock] using hq
    refine ⟨fun a => ?_, A.lt⟩
    rcases a with a | a
    · have := (h.cc.flt a).2; omega
    · have := h.hX _ a; omega
set_option maxRecDepth 4000 in
set_option maxHeartbeats 8000000 in
theorem binary_c (h : BS B X P w gB cv gc gv G n) {xv yv : Value} {x y : List Nat} {wd : Nat} {f g : WF} (hx : WO (fpX gc gv X) w xv x) (vx : Wv G x wd f) (hy : WO (fpX gc gv X) w yv y) (vy : Wv G y wd g) (h1 : 1 ≤ wd) (h2 : wd ≤ 64) (o : Int) (ho1 : 5 ≤ o) (ho2 : o ≤ 18) (w2 : Nat) (hw2 : w2 = if o ≤ 12 then wd else 1) (hl : G.length + 1000 ≤ 700000000) :
    Calls Try.prog 80 #[.pointer (some ⟨gB, 0, none⟩), .int .i64 o, xv, yv] w fun e w' => RVB B X P gB cv gc gv w G n 700 w2 (fun i => binF o (f i) (g i) wd) (fun i => binD o (g i)) e w' := by
  have HL := Hid.mk hl
  have HB0 := Hid.mk h
  have HS0 : Hid (Stp (fpC gc gv) (fpC gc gv) w w) := Hid.mk (Stp.keep (Keep.refl w))
  have HE0 := Hid.mk (Ext.refl h.wf)
  have HWx0 := Hid.mk hx
  have HWy0 := Hid.mk hy
  have HVx0 := Hid.mk vx
  have HVy0 := Hid.mk vy
  obtain ⟨xa, xc, hxv, x1, x2⟩ := hx.sh vx
  obtain ⟨ya, yc, hyv, y1, y2⟩ := hy.sh vy
  subst hxv hyv
  obtain ⟨x0, -⟩ := h.cells
  have i2 : (wd : Int) ≤ 64 := by omega
  clear h hx hy hl
  rcases (show o = 5 ∨ o = 6 ∨ o = 7 ∨ o = 8 ∨ o = 9 ∨ o = 10 ∨ o = 11 ∨ o = 12 ∨ o = 13 ∨ o = 14 ∨ o = 15 ∨ o = 16 ∨ o = 17 ∨ o = 18 by omega) with rfl | rfl | rfl | rfl | rfl | rfl | rfl | rfl | rfl | rfl | rfl | rfl | rfl | rfl
  · as_aux_lemma =>
      obtain rfl : wd = w2 := by rw [hw2]; rfl
      clear hw2
      go_enter Try.func80, Try.ntmps80
      go_wp2_with fail
      refine (false_c gc _).mono ?_
      rintro e w0 ⟨rfl, hw⟩
      subst hw
      go_wp2_with fail
      refine (andW_k HB0.out HWx0.out HVx0.out HWy0.out HVy0.out h2 (by have := HL.out; have := HE0.out.len; omega)).mono ?_
      rintro e w1 ⟨gv1, G1, lr, par, pcr, rfl, b9, s9, e9, wo9, wv9⟩
      have HB1 := Hid.mk b9
      have HS1 := Hid.mk (HS0.out.trans s9)
      have HE1 := Hid.mk (HE0.out.trans e9)
      have HWx1 := Hid.mk (HWx0.out.stepX s9)
      have HVx1 := Hid.mk (HVx0.out.ext e9.pre)
      have HWy1 := Hid.mk (HWy0.out.stepX s9)
      have HVy1 := Hid.mk (HVy0.out.ext e9.pre)
      have HWr1 := Hid.mk wo9
      have HVr1 := Hid.mk wv9
      clear wo9 wv9
      clear b9 s9 e9
      go_wp2_with fail
      go_ret2
      refine ⟨gv1, G1, _, _, _, _, rfl, HB1.out, HS1.out, HE1.out.mono (by omega), HWr1.out, HVr1.out.congr (fun inp => ?_), HB1.out.wf.2.congr (fun inp => by rfl)⟩
      rfl
  · as_aux_lemma =>
      obtain rfl : wd = w2 := by rw [hw2]; rfl
      clear hw2
      go_enter Try.func80, Try.ntmps80
      go_wp2_with fail
      refine (false_c gc _).mono ?_
      rintro e w0 ⟨rfl, hw⟩
      subst hw
      go_wp2_with fail
      refine (notW_k HB0.out HWx0.out HVx0.out h2 (by have := HL.out; have := HE0.out.len; omega)).mono ?_
      rintro e w1 ⟨gv1, G1, lp, pap, pcp, rfl, b9, s9, e9, wo9, wv9⟩
      have HB1 := Hid.mk b9
      have HS1 := Hid.mk (HS0.out.trans s9)
      have HE1 := Hid.mk (HE0.out.trans e9)
      have HWx1 := Hid.mk (HWx0.out.stepX s9)
      have HVx1 := Hid.mk (HVx0.out.ext e9.pre)
      have HWy1 := Hid.mk (HWy0.out.stepX s9)
      have HVy1 := Hid.mk (HVy0.out.ext e9.pre)
      have HWp1 := Hid.mk wo9
      have HVp1 := Hid.mk wv9
      clear wo9 wv9
      clear b9 s9 e9
      go_wp2_with fail
      refine (notW_k HB1.out HWy1.out HVy1.out h2 (by have := HL.out; have := HE1.out.len; omega)).mono ?_
      rintro e w2 ⟨gv2, G2, lq, paq, pcq, rfl, b9, s9, e9, wo9, wv9⟩
      have HB2 := Hid.mk b9
      have HS2 := Hid.mk (HS1.out.trans s9)
      have HE2 := Hid.mk (HE1.out.trans e9)
      have HWx2 := Hid.mk (HWx1.out.stepX s9)
      have HVx2 := Hid.mk (HVx1.out.ext e9.pre)
      have HWy2 := Hid.mk (HWy1.out.stepX s9)
      have HVy2 := Hid.mk (HVy1.out.ext e9.pre)
      have HWp2 := Hid.mk (HWp1.out.stepX s9)
      have HVp2 := Hid.mk (HVp1.out.ext e9.pre)
      have HWq2 := Hid.mk wo9
      have HVq2 := Hid.mk wv9
      clear wo9 wv9
      clear b9 s9 e9
      go_wp2_with fail
      refine (andW_k HB2.out HWp2.out HVp2.out HWq2.out HVq2.out h2 (by have := HL.out; have := HE2.out.len; omega)).mono ?_
      rintro e w3 ⟨gv3, G3, ls, pas, pcs, rfl, b9, s9, e9, wo9, wv9⟩
      have HB3 := Hid.mk b9
      have HS3 := Hid.mk (HS2.out.trans s9)
      have HE3 := Hid.mk (HE2.out.trans e9)
      have HWx3 := Hid.mk (HWx2.out.stepX s9)
      have HVx3 := Hid.mk (HVx2.out.ext e9.pre)
      have HWy3 := Hid.mk (HWy2.out.stepX s9)
      have HVy3 := Hid.mk (HVy2.out.ext e9.pre)
      have HWp3 := Hid.mk (HWp2.out.stepX s9)
      have HVp3 := Hid.mk (HVp2.out.ext e9.pre)
      have HWq3 := Hid.mk (HWq2.out.stepX s9)
      have HVq3 := Hid.mk (HVq2.out.ext e9.pre)
      have HWs3 := Hid.mk wo9
      have HVs3 := Hid.mk wv9
      clear wo9 wv9
      clear b9 s9 e9
      go_wp2_with fail
      refine (notW_k HB3.out HWs3.out HVs3.out h2 (by have := HL.out; have := HE3.out.len; omega)).mono ?_
      rintro e w4 ⟨gv4, G4, lr, par, pcr, rfl, b9, s9, e9, wo9, wv9⟩
      have HB4 := Hid.mk b9
      have HS4 := Hid.mk (HS3.out.trans s9)
      have HE4 := Hid.mk (HE3.out.trans e9)
      have HWx4 := Hid.mk (HWx3.out.stepX s9)
      have HVx4 := Hid.mk (HVx3.out.ext e9.pre)
      have HWy4 := Hid.mk (HWy3.out.stepX s9)
      have HVy4 := Hid.mk (HVy3.out.ext e9.pre)
      have HWp4 := Hid.mk (HWp3.out.stepX s9)
      have HVp4 := Hid.mk (HVp3.out.ext e9.pre)
      have HWq4 := Hid.mk (HWq3.out.stepX s9)
      have HVq4 := Hid.mk (HVq3.out.ext e9.pre)
      have HWs4 := Hid.mk (HWs3.out.stepX s9)
      have HVs4 := Hid.mk (HVs3.out.ext e9.pre)
      have HWr4 := Hid.mk wo9
      have HVr4 := Hid.mk wv9
      clear wo9 wv9
      clear b9 s9 e9
      go_wp2_with fail
      go_ret2
      refine ⟨gv4, G4, _, _, _, _, rfl, HB4.out, HS4.out, HE4.out.mono (by omega), HWr4.out, HVr4.out.congr (fun inp => ?_), HB4.out.wf.2.congr (fun inp => by rfl)⟩
      exact or_nots (vx.lt inp) (vy.lt inp)
  · as_aux_lemma =>
      obtain rfl : wd = w2 := by rw [hw2]; rfl
      clear hw2
      go_enter Try.func80, Try.ntmps80
      go_wp2_with fail
      refine (false_c gc _).mono ?_
      rintro e w0 ⟨rfl, hw⟩
      subst hw
      go_wp2_with fail
      refine (andW_k HB0.out HWx0.out HVx0.out HWy0.out HVy0.out h2 (by have := HL.out; have := HE0.out.len; omega)).mono ?_
      rintro e w1 ⟨gv1, G1, lp, pap, pcp, rfl, b9, s9, e9, wo9, wv9⟩
      have HB1 := Hid.mk b9
      have HS1 := Hid.mk (HS0.out.trans s9)
      have HE1 := Hid.mk (HE0.out.trans e9)
      have HWx1 := Hid.mk (HWx0.out.stepX s9)
      have HVx1 := Hid.mk (HVx0.out.ext e9.pre)
      have HWy1 := Hid.mk (HWy0.out.stepX s9)
      have HVy1 := Hid.mk (HVy0.out.ext e9.pre)
      have HWp1 := Hid.mk wo9
      have HVp1 := Hid.mk wv9
      clear wo9 wv9
      clear b9 s9 e9
      go_wp2_with fail
      refine (notW_k HB1.out HWp1.out HVp1.out h2 (by have := HL.out; have := HE1.out.len; omega)).mono ?_
      rintro e w2 ⟨gv2, G2, lq, paq, pcq, rfl, b9, s9, e9, wo9, wv9⟩
      have HB2 := Hid.mk b9
      have HS2 := Hid.mk (HS1.out.trans s9)
      have HE2 := Hid.mk (HE1.out.trans e9)
      have HWx2 := Hid.mk (HWx1.out.stepX s9)
      have HVx2 := Hid.mk (HVx1.out.ext e9.pre)
      have HWy2 := Hid.mk (HWy1.out.stepX s9)
      have HVy2 := Hid.mk (HVy1.out.ext e9.pre)
      have HWp2 := Hid.mk (HWp1.out.stepX s9)
      have HVp2 := Hid.mk (HVp1.out.ext e9.pre)
      have HWq2 := Hid.mk wo9
      have HVq2 := Hid.mk wv9
      clear wo9 wv9
      clear b9 s9 e9
      go_wp2_with fail
      refine (notW_k HB2.out HWx2.out HVx2.out h2 (by have := HL.out; have := HE2.out.len; omega)).mono ?_
      rintro e w3 ⟨gv3, G3, ls, pas, pcs, rfl, b9, s9, e9, wo9, wv9⟩
      have HB3 := Hid.mk b9
      have HS3 := Hid.mk (HS2.out.trans s9)
      have HE3 := Hid.mk (HE2.out.trans e9)
      have HWx3 := Hid.mk (HWx2.out.stepX s9)
      have HVx3 := Hid.mk (HVx2.out.ext e9.pre)
      have HWy3 := Hid.mk (HWy2.out.stepX s9)
      have HVy3 := Hid.mk (HVy2.out.ext e9.pre)
      have HWp3 := Hid.mk (HWp2.out.stepX s9)
      have HVp3 := Hid.mk (HVp2.out.ext e9.pre)
      have HWq3 := Hid.mk (HWq2.out.stepX s9)
      have HVq3 := Hid.mk (HVq2.out.ext e9.pre)
      have HWs3 := Hid.mk wo9
      have HVs3 := Hid.mk wv9
      clear wo9 wv9
      clear b9 s9 e9
      go_wp2_with fail
      refine (notW_k HB3.out HWy3.out HVy3.out h2 (by have := HL.out; have := HE3.out.len; omega)).mono ?_
      rintro e w4 ⟨gv4, G4, lt, pat, pct, rfl, b9, s9, e9, wo9, wv9⟩
      have HB4 := Hid.mk b9
      have HS4 := Hid.mk (HS3.out.trans s9)
      have HE4 := Hid.mk (HE3.out.trans e9)
      have HWx4 := Hid.mk (HWx3.out.stepX s9)
      have HVx4 := Hid.mk (HVx3.out.ext e9.pre)
      have HWy4 := Hid.mk (HWy3.out.stepX s9)
      have HVy4 := Hid.mk (HVy3.out.ext e9.pre)
      have HWp4 := Hid.mk (HWp3.out.stepX s9)
      have HVp4 := Hid.mk (HVp3.out.ext e9.pre)
      have HWq4 := Hid.mk (HWq3.out.stepX s9)
      have HVq4 := Hid.mk (HVq3.out.ext e9.pre)
      have HWs4 := Hid.mk (HWs3.out.stepX s9)
      have HVs4 := Hid.mk (HVs3.out.ext e9.pre)
      have HWt4 := Hid.mk wo9
      have HVt4 := Hid.mk wv9
      clear wo9 wv9
      clear b9 s9 e9
      go_wp2_with fail
      refine (andW_k HB4.out HWs4.out HVs4.out HWt4.out HVt4.out h2 (by have := HL.out; have := HE4.out.len; omega)).mono ?_
      rintro e w5 ⟨gv5, G5, lu, pau, pcu, rfl, b9, s9, e9, wo9, wv9⟩
      have HB5 := Hid.mk b9
      have HS5 := Hid.mk (HS4.out.trans s9)
      have HE5 := Hid.mk (HE4.out.trans e9)
      have HWx5 := Hid.mk (HWx4.out.stepX s9)
      have HVx5 := Hid.mk (HVx4.out.ext e9.pre)
      have HWy5 := Hid.mk (HWy4.out.stepX s9)
      have HVy5 := Hid.mk (HVy4.out.ext e9.pre)
      have HWp5 := Hid.mk (HWp4.out.stepX s9)
      have HVp5 := Hid.mk (HVp4.out.ext e9.pre)
      have HWq5 := Hid.mk (HWq4.out.stepX s9)
      have HVq5 := Hid.mk (HVq4.out.ext e9.pre)
      have HWs5 := Hid.mk (HWs4.out.stepX s9)
      have HVs5 := Hid.mk (HVs4.out.ext e9.pre)
      have HWt5 := Hid.mk (HWt4.out.stepX s9)
      have HVt5 := Hid.mk (HVt4.out.ext e9.pre)
      have HWu5 := Hid.mk wo9
      have HVu5 := Hid.mk wv9
      clear wo9 wv9
      clear b9 s9 e9
      go_wp2_with fail
      refine (notW_k HB5.out HWu5.out HVu5.out h2 (by have := HL.out; have := HE5.out.len; omega)).mono ?_
      rintro e w6 ⟨gv6, G6, lv, pav, pcv, rfl, b9, s9, e9, wo9, wv9⟩
      have HB6 := Hid.mk b9
      have HS6 := Hid.mk (HS5.out.trans s9)
      have HE6 := Hid.mk (HE5.out.trans e9)
      have HWx6 := Hid.mk (HWx5.out.stepX s9)
      have HVx6 := Hid.mk (HVx5.out.ext e9.pre)
      have HWy6 := Hid.mk (HWy5.out.stepX s9)
      have HVy6 := Hid.mk (HVy5.out.ext e9.pre)
      have HWp6 := Hid.mk (HWp5.out.stepX s9)
      have HVp6 := Hid.mk (HVp5.out.ext e9.pre)
      have HWq6 := Hid.mk (HWq5.out.stepX s9)
      have HVq6 := Hid.mk (HVq5.out.ext e9.pre)
      have HWs6 := Hid.mk (HWs5.out.stepX s9)
      have HVs6 := Hid.mk (HVs5.out.ext e9.pre)
      have HWt6 := Hid.mk (HWt5.out.stepX s9)
      have HVt6 := Hid.mk (HVt5.out.ext e9.pre)
      have HWu6 := Hid.mk (HWu5.out.stepX s9)
      have HVu6 := Hid.mk (HVu5.out.ext e9.pre)
      have HWv6 := Hid.mk wo9
      have HVv6 := Hid.mk wv9
      clear wo9 wv9
      clear b9 s9 e9
      go_wp2_with fail
      refine (andW_k HB6.out HWq6.out HVq6.out HWv6.out HVv6.out h2 (by have := HL.out; have := HE6.out.len; omega)).mono ?_
      rintro e w7 ⟨gv7, G7, lr, par, pcr, rfl, b9, s9, e9, wo9, wv9⟩
      have HB7 := Hid.mk b9
      have HS7 := Hid.mk (HS6.out.trans s9)
      have HE7 := Hid.mk (HE6.out.trans e9)
      have HWx7 := Hid.mk (HWx6.out.stepX s9)
      have HVx7 := Hid.mk (HVx6.out.ext e9.pre)
      have HWy7 := Hid.mk (HWy6.out.stepX s9)
      have HVy7 := Hid.mk (HVy6.out.ext e9.pre)
      have HWp7 := Hid.mk (HWp6.out.stepX s9)
      have HVp7 := Hid.mk (HVp6.out.ext e9.pre)
      have HWq7 := Hid.mk (HWq6.out.stepX s9)
      have HVq7 := Hid.mk (HVq6.out.ext e9.pre)
      have HWs7 := Hid.mk (HWs6.out.stepX s9)
      have HVs7 := Hid.mk (HVs6.out.ext e9.pre)
      have HWt7 := Hid.mk (HWt6.out.stepX s9)
      have HVt7 := Hid.mk (HVt6.out.ext e9.pre)
      have HWu7 := Hid.mk (HWu6.out.stepX s9)
      have HVu7 := Hid.mk (HVu6.out.ext e9.pre)
      have HWv7 := Hid.mk (HWv6.out.stepX s9)
      have HVv7 := Hid.mk (HVv6.out.ext e9.pre)
      have HWr7 := Hid.mk wo9
      have HVr7 := Hid.mk wv9
      clear wo9 wv9
      clear b9 s9 e9
      go_wp2_with fail
      go_ret2
      refine ⟨gv7, G7, _, _, _, _, rfl, HB7.out, HS7.out, HE7.out.mono (by omega), HWr7.out, HVr7.out.congr (fun inp => ?_), HB7.out.wf.2.congr (fun inp => by rfl)⟩
      exact xor_nots (vx.lt inp) (vy.lt inp)
  · as_aux_lemma =>
      obtain rfl : wd = w2 := by rw [hw2]; rfl
      clear hw2
      go_enter Try.func80, Try.ntmps80
      go_wp2_with fail
      refine (false_c gc _).mono ?_
      rintro e w0 ⟨rfl, hw⟩
      subst hw
      go_wp2_with fail
      refine (add_k HB0.out HWx0.out HVx0.out HWy0.out HVy0.out h1 h2 (by have := HL.out; have := HE0.out.len; omega)).mono ?_
      rintro e w1 ⟨gv1, G1, lr, par, pcr, rfl, b9, s9, e9, wo9, wv9⟩
      have HB1 := Hid.mk b9
      have HS1 := Hid.mk (HS0.out.trans s9)
      have HE1 := Hid.mk (HE0.out.trans e9)
      have HWx1 := Hid.mk (HWx0.out.stepX s9)
      have HVx1 := Hid.mk (HVx0.out.ext e9.pre)
      have HWy1 := Hid.mk (HWy0.out.stepX s9)
      have HVy1 := Hid.mk (HVy0.out.ext e9.pre)
      have HWr1 := Hid.mk wo9
      have HVr1 := Hid.mk wv9
      clear wo9 wv9
      clear b9 s9 e9
      go_wp2_with fail
      go_ret2
      refine ⟨gv1, G1, _, _, _, _, rfl, HB1.out, HS1.out, HE1.out.mono (by omega), HWr1.out, HVr1.out.congr (fun inp => ?_), HB1.out.wf.2.congr (fun inp => by rfl)⟩
      rfl
  · as_aux_lemma =>
      obtain rfl : wd = w2 := by rw [hw2]; rfl
      clear hw2
      go_enter Try.func80, Try.ntmps80
      go_wp2_with fail
      refine (false_c gc _).mono ?_
      rintro e w0 ⟨rfl, hw⟩
      subst hw
      go_wp2_with fail
      refine (sub_k HB0.out HWx0.out HVx0.out HWy0.out HVy0.out h1 h2 (by have := HL.out; have := HE0.out.len; omega)).mono ?_
      rintro e w1 ⟨gv1, G1, lr, par, pcr, rfl, b9, s9, e9, wo9, wv9⟩
      have HB1 := Hid.mk b9
      have HS1 := Hid.mk (HS0.out.trans s9)
      have HE1 := Hid.mk (HE0.out.trans e9)
      have HWx1 := Hid.mk (HWx0.out.stepX s9)
      have HVx1 := Hid.mk (HVx0.out.ext e9.pre)
      have HWy1 := Hid.mk (HWy0.out.stepX s9)
      have HVy1 := Hid.mk (HVy0.out.ext e9.pre)
      have HWr1 := Hid.mk wo9
      have HVr1 := Hid.mk wv9
      clear wo9 wv9
      clear b9 s9 e9
      go_wp2_with fail
      go_ret2
      refine ⟨gv1, G1, _, _, _, _, rfl, HB1.out, HS1.out, HE1.out.mono (by omega), HWr1.out, HVr1.out.congr (fun inp => ?_), HB1.out.wf.2.congr (fun inp => by rfl)⟩
      rfl
  · as_aux_lemma =>
      obtain rfl : wd = w2 := by rw [hw2]; rfl
      clear hw2
      go_enter Try.func80, Try.ntmps80
      go_wp2_with fail
      refine (false_c gc _).mono ?_
      rintro e w0 ⟨rfl, hw⟩
      subst hw
      go_wp2_with fail
      refine (mul_k HB0.out HWx0.out HVx0.out HWy0.out HVy0.out h1 h2 (by have := HL.out; have := HE0.out.len; omega)).mono ?_
      rintro e w1 ⟨gv1, G1, lr, par, pcr, rfl, b9, s9, e9, wo9, wv9⟩
      have HB1 := Hid.mk b9
      have HS1 := Hid.mk (HS0.out.trans s9)
      have HE1 := Hid.mk (HE0.out.trans e9)
      have HWx1 := Hid.mk (HWx0.out.stepX s9)
      have HVx1 := Hid.mk (HVx0.out.ext e9.pre)
      have HWy1 := Hid.mk (HWy0.out.stepX s9)
      have HVy1 := Hid.mk (HVy0.out.ext e9.pre)
      have HWr1 := Hid.mk wo9
      have HVr1 := Hid.mk wv9
      clear wo9 wv9
      clear b9 s9 e9
      go_wp2_with fail
      go_ret2
      refine ⟨gv1, G1, _, _, _, _, rfl, HB1.out, HS1.out, HE1.out.mono (by omega), HWr1.out, HVr1.out.congr (fun inp => ?_), HB1.out.wf.2.congr (fun inp => by rfl)⟩
      rfl
  · as_aux_lemma =>
      obtain rfl : wd = w2 := by rw [hw2]; rfl
      clear hw2
      go_enter Try.func80, Try.ntmps80
      go_wp2_with fail
      refine (false_c gc _).mono ?_
      rintro e w0 ⟨rfl, hw⟩
      subst hw
      go_wp2_with fail
      refine (const0_k HB0.out wd h1 h2 (by have := HL.out; have := HE0.out.len; omega)).mono ?_
      rintro e w1 ⟨gv1, G1, lz, paz, pcz, rfl, b9, s9, e9, wo9, wv9⟩
      have HB1 := Hid.mk b9
      have HS1 := Hid.mk (HS0.out.trans s9)
      have HE1 := Hid.mk (HE0.out.trans e9)
      have HWx1 := Hid.mk (HWx0.out.stepX s9)
      have HVx1 := Hid.mk (HVx0.out.ext e9.pre)
      have HWy1 := Hid.mk (HWy0.out.stepX s9)
      have HVy1 := Hid.mk (HVy0.out.ext e9.pre)
      have HWz1 := Hid.mk wo9
      have HVz1 := Hid.mk wv9
      clear wo9 wv9
      clear b9 s9 e9
      go_wp2_with fail
      refine (eq_k HB1.out HWy1.out HVy1.out HWz1.out HVz1.out h1 h2 (by have := HL.out; have := HE1.out.len; omega)).mono ?_
      rintro e w2 ⟨gv2, G2, bb, rfl, b9, s9, e9, bt9⟩
      have HB2 := Hid.mk b9
      have HS2 := Hid.mk (HS1.out.trans s9)
      have HE2 := Hid.mk (HE1.out.trans e9)
      have HWx2 := Hid.mk (HWx1.out.stepX s9)
      have HVx2 := Hid.mk (HVx1.out.ext e9.pre)
      have HWy2 := Hid.mk (HWy1.out.stepX s9)
      have HVy2 := Hid.mk (HVy1.out.ext e9.pre)
      have HWz2 := Hid.mk (HWz1.out.stepX s9)
      have HVz2 := Hid.mk (HVz1.out.ext e9.pre)
      have HTb2 := Hid.mk bt9
      clear bt9
      clear b9 s9 e9
      go_wp2_with fail
      refine (div_k HB2.out HWx2.out HVx2.out HWy2.out HVy2.out h1 h2 (by have := HL.out; have := HE2.out.len; omega)).mono ?_
      rintro e w3 ⟨gv3, G3, lq, paq, pcq, rfl, b9, s9, e9, wo9, wv9⟩
      have HB3 := Hid.mk b9
      have HS3 := Hid.mk (HS2.out.trans s9)
      have HE3 := Hid.mk (HE2.out.trans e9)
      have HWx3 := Hid.mk (HWx2.out.stepX s9)
      have HVx3 := Hid.mk (HVx2.out.ext e9.pre)
      have HWy3 := Hid.mk (HWy2.out.stepX s9)
      have HVy3 := Hid.mk (HVy2.out.ext e9.pre)
      have HWz3 := Hid.mk (HWz2.out.stepX s9)
      have HVz3 := Hid.mk (HVz2.out.ext e9.pre)
      have HTb3 := Hid.mk (HTb2.out.ext e9.pre)
      have HWq3 := Hid.mk wo9
      have HVq3 := Hid.mk wv9
      clear wo9 wv9
      clear b9 s9 e9
      go_wp2_with fail
      refine (muxW_k HB3.out HTb3.out HWz3.out HVz3.out HWq3.out HVq3.out h2 (by have := HL.out; have := HE3.out.len; omega)).mono ?_
      rintro e w4 ⟨gv4, G4, lr, par, pcr, rfl, b9, s9, e9, wo9, wv9⟩
      have HB4 := Hid.mk b9
      have HS4 := Hid.mk (HS3.out.trans s9)
      have HE4 := Hid.mk (HE3.out.trans e9)
      have HWx4 := Hid.mk (HWx3.out.stepX s9)
      have HVx4 := Hid.mk (HVx3.out.ext e9.pre)
      have HWy4 := Hid.mk (HWy3.out.stepX s9)
      have HVy4 := Hid.mk (HVy3.out.ext e9.pre)
      have HWz4 := Hid.mk (HWz3.out.stepX s9)
      have HVz4 := Hid.mk (HVz3.out.ext e9.pre)
      have HWq4 := Hid.mk (HWq3.out.stepX s9)
      have HVq4 := Hid.mk (HVq3.out.ext e9.pre)
      have HTb4 := Hid.mk (HTb3.out.ext e9.pre)
      have HWr4 := Hid.mk wo9
      have HVr4 := Hid.mk wv9
      clear wo9 wv9
      clear b9 s9 e9
      go_wp2_with fail
      go_ret2
      refine ⟨gv4, G4, _, _, _, _, rfl, HB4.out, HS4.out, HE4.out.mono (by omega), HWr4.out, HVr4.out.congr (fun inp => ?_), HTb4.out.congr (fun inp => by simp [binD])⟩
      simp [binF]
  · as_aux_lemma =>
      obtain rfl : wd = w2 := by rw [hw2]; rfl
      clear hw2
      go_enter Try.func80, Try.ntmps80
      go_wp2_with fail
      refine (false_c gc _).mono ?_
      rintro e w0 ⟨rfl, hw⟩
      subst hw
      go_wp2_with fail
      refine (const0_k HB0.out wd h1 h2 (by have := HL.out; have := HE0.out.len; omega)).mono ?_
      rintro e w1 ⟨gv1, G1, lz, paz, pcz, rfl, b9, s9, e9, wo9, wv9⟩
      have HB1 := Hid.mk b9
      have HS1 := Hid.mk (HS0.out.trans s9)
      have HE1 := Hid.mk (HE0.out.trans e9)
      have HWx1 := Hid.mk (HWx0.out.stepX s9)
      have HVx1 := Hid.mk (HVx0.out.ext e9.pre)
      have HWy1 := Hid.mk (HWy0.out.stepX s9)
      have HVy1 := Hid.mk (HVy0.out.ext e9.pre)
      have HWz1 := Hid.mk wo9
      have HVz1 := Hid.mk wv9
      clear wo9 wv9
      clear b9 s9 e9
      go_wp2_with fail
      refine (eq_k HB1.out HWy1.out HVy1.out HWz1.out HVz1.out h1 h2 (by have := HL.out; have := HE1.out.len; omega)).mono ?_
      rintro e w2 ⟨gv2, G2, bb, rfl, b9, s9, e9, bt9⟩
      have HB2 := Hid.mk b9
      have HS2 := Hid.mk (HS1.out.trans s9)
      have HE2 := Hid.mk (HE1.out.trans e9)
      have HWx2 := Hid.mk (HWx1.out.stepX s9)
      have HVx2 := Hid.mk (HVx1.out.ext e9.pre)
      have HWy2 := Hid.mk (HWy1.out.stepX s9)
      have HVy2 := Hid.mk (HVy1.out.ext e9.pre)
      have HWz2 := Hid.mk (HWz1.out.stepX s9)
      have HVz2 := Hid.mk (HVz1.out.ext e9.pre)
      have HTb2 := Hid.mk bt9
      clear bt9
      clear b9 s9 e9
      go_wp2_with fail
      refine (rem_k HB2.out HWx2.out HVx2.out HWy2.out HVy2.out h1 h2 (by have := HL.out; have := HE2.out.len; omega)).mono ?_
      rintro e w3 ⟨gv3, G3, lq, paq, pcq, rfl, b9, s9, e9, wo9, wv9⟩
      have HB3 := Hid.mk b9
      have HS3 := Hid.mk (HS2.out.trans s9)
      have HE3 := Hid.mk (HE2.out.trans e9)
      have HWx3 := Hid.mk (HWx2.out.stepX s9)
      have HVx3 := Hid.mk (HVx2.out.ext e9.pre)
      have HWy3 := Hid.mk (HWy2.out.stepX s9)
      have HVy3 := Hid.mk (HVy2.out.ext e9.pre)
      have HWz3 := Hid.mk (HWz2.out.stepX s9)
      have HVz3 := Hid.mk (HVz2.out.ext e9.pre)
      have HTb3 := Hid.mk (HTb2.out.ext e9.pre)
      have HWq3 := Hid.mk wo9
      have HVq3 := Hid.mk wv9
      clear wo9 wv9
      clear b9 s9 e9
      go_wp2_with fail
      refine (muxW_k HB3.out HTb3.out HWz3.out HVz3.out HWq3.out HVq3.out h2 (by have := HL.out; have := HE3.out.len; omega)).mono ?_
      rintro e w4 ⟨gv4, G4, lr, par, pcr, rfl, b9, s9, e9, wo9, wv9⟩
      have HB4 := Hid.mk b9
      have HS4 := Hid.mk (HS3.out.trans s9)
      have HE4 := Hid.mk (HE3.out.trans e9)
      have HWx4 := Hid.mk (HWx3.out.stepX s9)
      have HVx4 := Hid.mk (HVx3.out.ext e9.pre)
      have HWy4 := Hid.mk (HWy3.out.stepX s9)
      have HVy4 := Hid.mk (HVy3.out.ext e9.pre)
      have HWz4 := Hid.mk (HWz3.out.stepX s9)
      have HVz4 := Hid.mk (HVz3.out.ext e9.pre)
      have HWq4 := Hid.mk (HWq3.out.stepX s9)
      have HVq4 := Hid.mk (HVq3.out.ext e9.pre)
      have HTb4 := Hid.mk (HTb3.out.ext e9.pre)
      have HWr4 := Hid.mk wo9
      have HVr4 := Hid.mk wv9
      clear wo9 wv9
      clear b9 s9 e9
      go_wp2_with fail
      go_ret2
      refine ⟨gv4, G4, _, _, _, _, rfl, HB4.out, HS4.out, HE4.out.mono (by omega), HWr4.out, HVr4.out.congr (fun inp => ?_), HTb4.out.congr (fun inp => by simp [binD])⟩
      simp [binF]
  · as_aux_lemma =>
      obtain rfl : 1 = w2 := by rw [hw2]; rfl
      clear hw2
      go_enter Try.func80, Try.ntmps80
      go_wp2_with fail
      refine (false_c gc _).mono ?_
      rintro e w0 ⟨rfl, hw⟩
      subst hw
      go_wp2_with fail
      refine (eq_k HB0.out HWx0.out HVx0.out HWy0.out HVy0.out h1 h2 (by have := HL.out; have := HE0.out.len; omega)).mono ?_
      rintro e w1 ⟨gv1, G1, bb, rfl, b9, s9, e9, bt9⟩
      have HB1 := Hid.mk b9
      have HS1 := Hid.mk (HS0.out.trans s9)
      have HE1 := Hid.mk (HE0.out.trans e9)
      have HWx1 := Hid.mk (HWx0.out.stepX s9)
      have HVx1 := Hid.mk (HVx0.out.ext e9.pre)
      have HWy1 := Hid.mk (HWy0.out.stepX s9)
      have HVy1 := Hid.mk (HVy0.out.ext e9.pre)
      have HTb1 := Hid.mk bt9
      clear bt9
      clear b9 s9 e9
      go_wp2_with fail
      go_ret2
      refine ⟨gv1, G1, _, _, _, 0, rfl, HB1.out.keep ((Keep.refl _).alloc _), HS1.out.trans (Stp.keep ((Keep.refl _).alloc _)), HE1.out.mono (by omega), HB1.out.lit _, HTb1.out.word.congr (fun inp => ?_), HB1.out.wf.2.congr (fun inp => by rfl)⟩
      rfl
  · as_aux_lemma =>
      obtain rfl : 1 = w2 := by rw [hw2]; rfl
      clear hw2
      go_enter Try.func80, Try.ntmps80
      go_wp2_with fail
      refine (false_c gc _).mono ?_
      rintro e w0 ⟨rfl, hw⟩
      subst hw
      go_wp2_with fail
      refine (eq_k HB0.out HWx0.out HVx0.out HWy0.out HVy0.out h1 h2 (by have := HL.out; have := HE0.out.len; omega)).mono ?_
      rintro e w1 ⟨gv1, G1, bb, rfl, b9, s9, e9, bt9⟩
      have HB1 := Hid.mk b9
      have HS1 := Hid.mk (HS0.out.trans s9)
      have HE1 := Hid.mk (HE0.out.trans e9)
      have HWx1 := Hid.mk (HWx0.out.stepX s9)
      have HVx1 := Hid.mk (HVx0.out.ext e9.pre)
      have HWy1 := Hid.mk (HWy0.out.stepX s9)
      have HVy1 := Hid.mk (HVy0.out.ext e9.pre)
      have HTb1 := Hid.mk bt9
      clear bt9
      clear b9 s9 e9
      go_wp2_with fail
      refine (not_k HB1.out HTb1.out (by have := HL.out; have := HE1.out.len; omega)).mono ?_
      rintro e w2 ⟨gv2, G2, bc, rfl, b9, s9, e9, bt9⟩
      have HB2 := Hid.mk b9
      have HS2 := Hid.mk (HS1.out.trans s9)
      have HE2 := Hid.mk (HE1.out.trans e9)
      have HWx2 := Hid.mk (HWx1.out.stepX s9)
      have HVx2 := Hid.mk (HVx1.out.ext e9.pre)
      have HWy2 := Hid.mk (HWy1.out.stepX s9)
      have HVy2 := Hid.mk (HVy1.out.ext e9.pre)
      have HTb2 := Hid.mk (HTb1.out.ext e9.pre)
      have HTc2 := Hid.mk bt9
      clear bt9
      clear b9 s9 e9
      go_wp2_with fail
      go_ret2
      refine ⟨gv2, G2, _, _, _, 0, rfl, HB2.out.keep ((Keep.refl _).alloc _), HS2.out.trans (Stp.keep ((Keep.refl _).alloc _)), HE2.out.mono (by omega), HB2.out.lit _, HTc2.out.word.congr (fun inp => ?_), HB2.out.wf.2.congr (fun inp => by rfl)⟩
      rfl
  · as_aux_lemma =>
      obtain rfl : 1 = w2 := by rw [hw2]; rfl
      clear hw2
      go_enter Try.func80, Try.ntmps80
      go_wp2_with fail
      refine (false_c gc _).mono ?_
      rintro e w0 ⟨rfl, hw⟩
      subst hw
      go_wp2_with fail
      refine (slt_k HB0.out HWx0.out HVx0.out HWy0.out HVy0.out h1 h2 (by have := HL.out; have := HE0.out.len; omega)).mono ?_
      rintro e w1 ⟨gv1, G1, bb, rfl, b9, s9, e9, bt9⟩
      have HB1 := Hid.mk b9
      have HS1 := Hid.mk (HS0.out.trans s9)
      have HE1 := Hid.mk (HE0.out.trans e9)
      have HWx1 := Hid.mk (HWx0.out.stepX s9)
      have HVx1 := Hid.mk (HVx0.out.ext e9.pre)
      have HWy1 := Hid.mk (HWy0.out.stepX s9)
      have HVy1 := Hid.mk (HVy0.out.ext e9.pre)
      have HTb1 := Hid.mk bt9
      clear bt9
      clear b9 s9 e9
      go_wp2_with fail
      go_ret2
      refine ⟨gv1, G1, _, _, _, 0, rfl, HB1.out.keep ((Keep.refl _).alloc _), HS1.out.trans (Stp.keep ((Keep.refl _).alloc _)), HE1.out.mono (by omega), HB1.out.lit _, HTb1.out.word.congr (fun inp => ?_), HB1.out.wf.2.congr (fun inp => by rfl)⟩
      rfl
  · as_aux_lemma =>
      obtain rfl : 1 = w2 := by rw [hw2]; rfl
      clear hw2
      go_enter Try.func80, Try.ntmps80
      go_wp2_with fail
      refine (false_c gc _).mono ?_
      rintro e w0 ⟨rfl, hw⟩
      subst hw
      go_wp2_with fail
      refine (slt_k HB0.out HWy0.out HVy0.out HWx0.out HVx0.out h1 h2 (by have := HL.out; have := HE0.out.len; omega)).mono ?_
      rintro e w1 ⟨gv1, G1, bb, rfl, b9, s9, e9, bt9⟩
      have HB1 := Hid.mk b9
      have HS1 := Hid.mk (HS0.out.trans s9)
      have HE1 := Hid.mk (HE0.out.trans e9)
      have HWx1 := Hid.mk (HWx0.out.stepX s9)
      have HVx1 := Hid.mk (HVx0.out.ext e9.pre)
      have HWy1 := Hid.mk (HWy0.out.stepX s9)
      have HVy1 := Hid.mk (HVy0.out.ext e9.pre)
      have HTb1 := Hid.mk bt9
      clear bt9
      clear b9 s9 e9
      go_wp2_with fail
      refine (not_k HB1.out HTb1.out (by have := HL.out; have := HE1.out.len; omega)).mono ?_
      rintro e w2 ⟨gv2, G2, bc, rfl, b9, s9, e9, bt9⟩
      have HB2 := Hid.mk b9
      have HS2 := Hid.mk (HS1.out.trans s9)
      have HE2 := Hid.mk (HE1.out.trans e9)
      have HWx2 := Hid.mk (HWx1.out.stepX s9)
      have HVx2 := Hid.mk (HVx1.out.ext e9.pre)
      have HWy2 := Hid.mk (HWy1.out.stepX s9)
      have HVy2 := Hid.mk (HVy1.out.ext e9.pre)
      have HTb2 := Hid.mk (HTb1.out.ext e9.pre)
      have HTc2 := Hid.mk bt9
      clear bt9
      clear b9 s9 e9
      go_wp2_with fail
      go_ret2
      refine ⟨gv2, G2, _, _, _, 0, rfl, HB2.out.keep ((Keep.refl _).alloc _), HS2.out.trans (Stp.keep ((Keep.refl _).alloc _)), HE2.out.mono (by omega), HB2.out.lit _, HTc2.out.word.congr (fun inp => ?_), HB2.out.wf.2.congr (fun inp => by rfl)⟩
      rfl
  · as_aux_lemma =>
      obtain rfl : 1 = w2 := by rw [hw2]; rfl
      clear hw2
      go_enter Try.func80, Try.ntmps80
      go_wp2_with fail
      refine (false_c gc _).mono ?_
      rintro e w0 ⟨rfl, hw⟩
      subst hw
      go_wp2_with fail
      refine (slt_k HB0.out HWy0.out HVy0.out HWx0.out HVx0.out h1 h2 (by have := HL.out; have := HE0.out.len; omega)).mono ?_
      rintro e w1 ⟨gv1, G1, bb, rfl, b9, s9, e9, bt9⟩
      have HB1 := Hid.mk b9
      have HS1 := Hid.mk (HS0.out.trans s9)
      have HE1 := Hid.mk (HE0.out.trans e9)
      have HWx1 := Hid.mk (HWx0.out.stepX s9)
      have HVx1 := Hid.mk (HVx0.out.ext e9.pre)
      have HWy1 := Hid.mk (HWy0.out.stepX s9)
      have HVy1 := Hid.mk (HVy0.out.ext e9.pre)
      have HTb1 := Hid.mk bt9
      clear bt9
      clear b9 s9 e9
      go_wp2_with fail
      go_ret2
      refine ⟨gv1, G1, _, _, _, 0, rfl, HB1.out.keep ((Keep.refl _).alloc _), HS1.out.trans (Stp.keep ((Keep.refl _).alloc _)), HE1.out.mono (by omega), HB1.out.lit _, HTb1.out.word.congr (fun inp => ?_), HB1.out.wf.2.congr (fun inp => by rfl)⟩
      rfl
  · as_aux_lemma =>
      obtain rfl : 1 = w2 := by rw [hw2]; rfl
      clear hw2
      go_enter Try.func80, Try.ntmps80
      go_wp2_with fail
      refine (false_c gc _).mono ?_
      rintro e w0 ⟨rfl, hw⟩
      subst hw
      go_wp2_with fail
      refine (slt_k HB0.out HWx0.out HVx0.out HWy0.out HVy0.out h1 h2 (by have := HL.out; have := HE0.out.len; omega)).mono ?_
      rintro e w1 ⟨gv1, G1, bb, rfl, b9, s9, e9, bt9⟩
      have HB1 := Hid.mk b9
      have HS1 := Hid.mk (HS0.out.trans s9)
      have HE1 := Hid.mk (HE0.out.trans e9)
      have HWx1 := Hid.mk (HWx0.out.stepX s9)
      have HVx1 := Hid.mk (HVx0.out.ext e9.pre)
      have HWy1 := Hid.mk (HWy0.out.stepX s9)
      have HVy1 := Hid.mk (HVy0.out.ext e9.pre)
      have HTb1 := Hid.mk bt9
      clear bt9
      clear b9 s9 e9
      go_wp2_with fail
      refine (not_k HB1.out HTb1.out (by have := HL.out; have := HE1.out.len; omega)).mono ?_
      rintro e w2 ⟨gv2, G2, bc, rfl, b9, s9, e9, bt9⟩
      have HB2 := Hid.mk b9
      have HS2 := Hid.mk (HS1.out.trans s9)
      have HE2 := Hid.mk (HE1.out.trans e9)
      have HWx2 := Hid.mk (HWx1.out.stepX s9)
      have HVx2 := Hid.mk (HVx1.out.ext e9.pre)
      have HWy2 := Hid.mk (HWy1.out.stepX s9)
      have HVy2 := Hid.mk (HVy1.out.ext e9.pre)
      have HTb2 := Hid.mk (HTb1.out.ext e9.pre)
      have HTc2 := Hid.mk bt9
      clear bt9
      clear b9 s9 e9
      go_wp2_with fail
      go_ret2
      refine ⟨gv2, G2, _, _, _, 0, rfl, HB2.out.keep ((Keep.refl _).alloc _), HS2.out.trans (Stp.keep ((Keep.refl _).alloc _)), HE2.out.mono (by omega), HB2.out.lit _, HTc2.out.word.congr (fun inp => ?_), HB2.out.wf.2.congr (fun inp => by rfl)⟩
      rfl
end
end Go.Proofs.Qxb6500772a
