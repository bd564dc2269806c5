/- circuitm: word. -/
import Derived.Test.Qxb6500772aCe
namespace Go.Proofs.Qxb6500772a
open Go.RowKit Go.Qm
set_option linter.unusedVariables false
set_option linter.unusedSimpArgs false
attribute [local go_sem ↓] Go.wp_at_zero Go.wp_at_succ
def gWrd (op : Nat) (x y : List Nat) : Gate := ⟨4, 0, 0, op, x, y⟩
def gBit (m i : Nat) : Gate := ⟨5, m, i, 0, [], []⟩
theorem mem_bit {G : List Gate} {l : List Nat} {wd : Nat} {f : WF} (h : Wv G l wd f) : ∀ b ∈ l, isBit G b := by
  intro b hb
  obtain ⟨i, hi, rfl⟩ := List.mem_iff_getElem.1 hb
  exact (h.bit i hi).is
theorem wrd_sem {G : List Gate} (h : WFG G) {op wd : Nat} {x y : List Nat} {f g : WF} (vx : Wv G x wd f) (vy : Wv G y wd g) (h1 : 1 ≤ wd) (h2 : wd ≤ 64) (hop : op ≤ 6) : Ext 1 G (G ++ [gWrd op x y]) ∧ Wg (G ++ [gWrd op x y]) G.length (fun i => wop op (f i) (g i) wd) := by
  refine ⟨Ext.add h ⟨by simp [gWrd], by simp [gWrd], by simp [gWrd], fun _ => mem_bit vx, fun _ => mem_bit vy, fun _ => ⟨by simp [gWrd, vx.len, vy.len], by simp [gWrd, vx.len, h1], by simp [gWrd, vx.len, h2], hop⟩, by simp [gWrd]⟩, by simp, fun inp => ?_⟩
  rw [val_last]
  simp [gvl, gWrd, vx.word inp, vy.word inp, vx.len]
theorem bit_sem {G : List Gate} (h : WFG G) {m i : Nat} {F : WF} (hm : Wg G m F) (hi : i < 64) : Ext 1 G (G ++ [gBit m i]) ∧ Bt (G ++ [gBit m i]) G.length (fun inp => (F inp).testBit i) := by
  refine ⟨Ext.add h ⟨by simp [gBit], by simp [gBit], by simp [gBit], by simp [gBit], by simp [gBit], by simp [gBit], fun _ => ⟨hm.1, hi⟩⟩, Bt.new fun inp => ?_⟩
  have e : (ev G inp).getD m 0 = F inp := hm.2 inp
  simp only [gvl, gBit, e]
  rw [Nat.testBit_eq_decide_div_mod_eq]
  rcases Nat.mod_two_eq_zero_or_one (F inp / 2 ^ i) with a | a <;> simp [a]
section
variable {B gc n : Nat} {X : Nat → Prop} {gv : Value} {G : List Gate} {w : World}
theorem bit_s (h : CC B X w gc gv G n) (hw : WFG G) {m i : Nat} {F : WF} (hm : Wg G m F) (hi : i < 64) (hl : G.length ≤ 900000000) : Calls Try.prog 74 #[.pointer (some ⟨gc, 0, none⟩), .agg #[.int .i64 5, .int .i64 (m : Nat), .int .i64 (i : Nat), .int .i64 0, .slice none 0 0, .slice none 0 0]] w fun e w' => RetB B X gc gv w G n 1 (fun inp => (F inp).testBit i) e w' := by
  refine (addG_c h (gBit m i) _ _ (WO.nil _ w) (WO.nil _ w) nilm (by omega)).mono ?_
  rintro e w1 ⟨gv', rfl, c, s⟩
  exact ⟨gv', _, _, rfl, c, s, (bit_sem hw hm hi).1, (bit_sem hw hm hi).2⟩
def RetM (B : Nat) (X : Nat → Prop) (gc : Nat) (gv : Value) (w : World) (G : List Gate) (n k : Nat) (f : WF) (e : Ending) (w' : World) : Prop := ∃ gv' G' b, e = .returned (.int .i64 ((b : Nat) : Int)) ∧ CC B X w' gc gv' G' n ∧ Stp (fpC gc gv) (fpC gc gv') w w' ∧ Ext k G G' ∧ Wg G' b f
theorem wrd_s (h : CC B X w gc gv G n) (hw : WFG G) {op wd : Nat} {xa ya : Option Addr} {xn yn xc yc : Nat} {x y : List Nat} {f g : WF} (hx : WO (fpX gc gv X) w (.slice xa xn xc) x) (vx : Wv G x wd f) (hy : WO (fpX gc gv X) w (.slice ya yn yc) y) (vy : Wv G y wd g) (h1 : 1 ≤ wd) (h2 : wd ≤ 64) (hop : op ≤ 6) (hl : G.length ≤ 900000000) :
    Calls Try.prog 74 #[.pointer (some ⟨gc, 0, none⟩), .agg #[.int .i64 4, .int .i64 0, .int .i64 0, .int .i64 (op : Nat), .slice xa xn xc, .slice ya yn yc]] w fun e w' => RetM B X gc gv w G n 1 (fun i => wop op (f i) (g i) wd) e w' := by
  refine (addG_c h (gWrd op x y) _ _ (hx.mono fun q a => Or.inl a) (hy.mono fun q a => Or.inl a) (fun q hq a => ?_) (by omega)).mono ?_
  · rcases hq with b | b
    · exact (hx.nb q b).1 (Or.inr a)
    · exact (hy.nb q b).1 (Or.inr a)
  rintro e w1 ⟨gv', rfl, c, s⟩
  exact ⟨gv', _, _, rfl, c, s, (wrd_sem hw vx vy h1 h2 hop).1, (wrd_sem hw vx vy h1 h2 hop).2⟩
set_option maxRecDepth 4000 in
set_option maxHeartbeats 4000000 in
theorem word_c (h : CC B X w gc gv G n) (hw : WFG G) (hX : ∀ q, X q → q < w.heap.size) (op : Nat) {xv yv : Value} {x y : List Nat} {wd : Nat} {f g : WF} (hx : WO (fpX gc gv X) w xv x) (vx : Wv G x wd f) (hy : WO (fpX gc gv X) w yv y) (vy : Wv G y wd g) (h1 : 1 ≤ wd) (h2 : wd ≤ 64) (hop : op ≤ 6) (k0 : Nat) (hk0 : k0 ≤ 64) (hF : ∀ i, wop op (f i) (g i) wd < 2 ^ k0) (hl : G.length ≤ 800000000) :
    Calls Try.prog 91 #[.pointer (some ⟨gc, 0, none⟩), .int .i64 (op : Nat), xv, yv, .int .i64 (k0 : Nat)] w fun e w' => RetV B X gc gv w G n 65 k0 (fun i => wop op (f i) (g i) wd) e w' := by
  obtain ⟨xa, xc, hxv, x1, x2⟩ := hx.form
  obtain ⟨ya, yc, hyv, y1, y2⟩ := hy.form
  subst hxv hyv
  have AC := wrd_s h hw hx vx hy vy h1 h2 hop (by omega)
  generalize x.length = xn at *
  generalize y.length = yn at *
  have HL := Hid.mk hl
  have HXX := Hid.mk hX
  have HF := Hid.mk hF
  have HK0 := Hid.mk hk0
  have i0 : (k0 : Int) ≤ 64 := by omega
  generalize hFF : (fun i => wop op (f i) (g i) wd) = F at *
  have hF' : Hid (∀ i, F i < 2 ^ k0) := Hid.mk (fun i => by rw [← hFF]; exact hF i)
  clear hx hl h vx hX hy vy h1 h2 hop hFF hF HF x1 x2 y1 y2 hk0
  go_enter Try.func91, Try.ntmps91
  go_wp2_with fail
  refine AC.mono ?_
  rintro e w1 ⟨g1, G1, m, rfl, c1, s1, e1, b1⟩
  have HS1 := Hid.mk s1
  have HE1 := Hid.mk e1
  have HB1 := Hid.mk b1
  have L0 := LW.start c1 e1.wf F
  have HL0 := Hid.mk L0
  have HS1X : Hid (∀ q, X q → q < w1.heap.size) := Hid.mk (fun q hq => Nat.lt_of_lt_of_le (HXX.out q hq) s1.1.size)
  have HL1 : Hid (G1.length ≤ 800000001) := Hid.mk (by have := HL.out; have := e1.len; omega)
  clear c1 s1 e1 b1 AC L0
  go_wp2_with fail
  go_loopg [12, 13] k0 (fun gk v12 v13 wr => ∃ (k : Nat) (g' : Value) (G' : List Gate) (v : Value) (l : List Nat), k + gk = k0 ∧ v13 = .int .i64 k ∧ v12 = v ∧ LW B X w1 gc g1 G1 n F k k wr g' G' v l)
  case atStart => exact ⟨0, g1, G1, _, _, by omega, rfl, rfl, HL0.out⟩
  case round =>
    obtain ⟨k, g', G', ov, l, hk, rfl, hov, LL⟩ := hrel
    rw [hov]
    have HOV := Hid.mk hov
    have HK := Hid.mk hk
    have HLL := Hid.mk LL
    clear hov hk
    by_cases hlt : k < k0
    · have i1 : (k : Int) < k0 := by omega
      have i2 : (0 : Int) ≤ k := by omega
      have NC := bit_s LL.cc LL.ex.wf (HB1.out.ext LL.ex.pre) (i := k) (by have := HK0.out; omega) (by have := HL1.out; have := LL.ex.len; omega)
      have hln := LL.ln
      have HLN := Hid.mk hln
      have hw2 : w1.heap.size ≤ wr.heap.size := LL.st.1.size
      clear LL hln
      go_wp2_with fail
      refine NC.mono ?_
      rintro e w2 ⟨g2, G2, bb, rfl, c2, s2, e2, b2⟩
      have hw3 : w1.heap.size ≤ w2.heap.size := Nat.le_trans hw2 s2.1.size
      have HC2 := Hid.mk c2
      have HS2 := Hid.mk s2
      have HE2 := Hid.mk e2
      have HB2 := Hid.mk b2
      have HO2 := Hid.mk (HLL.out.ow.step s2)
      clear c2 s2 NC e2 b2
      go_wp2_with (at_builtin; refine wpList_app (by rfl) _ _ _ (by rfl) Try.underlying95 inf46 rfl w1.heap.size (HO2.out.1.alloc _) (Own.lit (B := w1.heap.size) [.int .i64 (bb : Nat)] hw3 (by simp [maxLen])).sl (by simp [Value.oneCell']) (by rfl) (by rfl) (by have := HLN.out; simp [maxLen]; omega) (by have := HLN.out; simp; omega) (by simp; omega) ?_; intro v' w' hown' hgr hob)
      go_roundg (gk - 1)
      case measure => have := HK.out; omega
      case rel =>
        exact ⟨k + 1, g2, G2, v', _, by have := HK.out; omega, by go_num, rfl, HLL.out.push HC2.out HS2.out HE2.out HB2.out ((Keep.refl w2).alloc _) hown' hgr hob⟩
    · have i1 : ¬ (k : Int) < k0 := by omega
      obtain rfl : k = k0 := by have := HK.out; omega
      clear LL
      go_wp2_with fail
      go_ret
      obtain ⟨gv', G', l, v, he, q1, q2, q3, q4, q5⟩ := HLL.out.done (K' := 64) HS1X.out HK0.out hF'.out
      exact ⟨gv', G', l, v, he, q1, HS1.out.trans q2, by rw [show 65 = 1 + 64 from rfl]; exact HE1.out.trans q3, q4, q5⟩
end
end Go.Proofs.Qxb6500772a
