/- modeslaw: stolenFromCBC. -/
import Derived.Test.Qxb6500769aDs
namespace Go.Proofs.Qxb6500769a
open Go.RowKit Go.Qm
set_option linter.unusedVariables false
set_option linter.unusedSimpArgs false
attribute [local go_sem ↓] Go.wp_at_zero Go.wp_at_succ

/-- A fresh slice that is not empty, its window. -/
theorem own_win {B : Nat} {w : World} {v : Value} {l : List UInt8} (h : Own B 5 w v (l.map cb)) (hl : l.length ≠ 0) : ∃ gx gc sp, v = .slice (some ⟨gx, 0, none⟩) l.length gc ∧ B ≤ gx ∧ Win w gx 5 [] l sp ∧ l.length ≤ gc ∧ gc ≤ maxLen := by
  rcases h.win with ⟨e2, h0⟩ | ⟨g2, cap, sp, e2, h2, w2, h3, h4⟩
  · exact absurd (by rw [h0]; rfl) hl
  · exact ⟨g2, cap, sp, e2, h2, w2, by omega, h4⟩
set_option maxRecDepth 3000 in
set_option maxHeartbeats 4000000 in
theorem stolen_c (al : Int) (ka : Option Addr) (kn kc : Nat) (key : List UInt8) (f : List UInt8 → List UInt8) (b n q tl : Nat) (ivv sv : Value) (iv src : List UInt8) (w : World)
    (hC : Cip 22 b al (.slice ka kn kc) key f) (hbs : bsz16 al = b) (hb0 : b ≠ 0) (hb1 : b ≤ 16) (hn : n = b * q + b + tl) (h1 : 1 ≤ tl) (ht : tl ≤ b) (hnm : n ≤ 90000)
    (hkl : key.length ≠ 0) (hkb : Bs w (.slice ka kn kc) key) (hiv : Bs w ivv iv) (hil : iv.length = b) (hsv : Bs w sv src) (hsl : src.length = n) :
    Calls Try.prog 24 #[.agg #[.int .i64 al, .slice ka kn kc], ivv, sv] w fun e w' =>
      ∃ v', e = .returned (.tuple #[v', .int .i64 0]) ∧ Bs w' v' (ctsE f b iv src q tl) ∧ Keep w w' := by
  obtain ⟨sb, so, sc, rfl, hsc, hsm⟩ := bs_some hsv (by omega)
  obtain ⟨ib, io, ic, rfl, hic, him⟩ := bs_some hiv (by omega)
  rw [hsl] at hsv hsc ⊢
  rw [hil] at hiv hic ⊢
  have ES := stolen_eq hC.1 hil (src := src) (q := q) (tl := tl) (by rw [hsl, hn]) ht h1
  obtain ⟨hd, hhd⟩ : ∃ hd, hd = b * q := ⟨_, rfl⟩
  obtain ⟨p1, hp1⟩ : ∃ p1, p1 = hd + b := ⟨_, rfl⟩
  obtain ⟨fu, hfu⟩ : ∃ fu, fu = p1 + b := ⟨_, rfl⟩
  obtain ⟨rs, hrs⟩ : ∃ rs, rs = fu - n := ⟨_, rfl⟩
  have hrs2 : rs = b - tl := by omega
  have hfq : fu = b * (q + 2) := by rw [Nat.mul_add]; omega
  have hq : q + 2 ≤ 100000 := by
    have : q + 2 ≤ b * (q + 2) := Nat.le_mul_of_pos_left _ (by omega)
    omega
  rw [← hrs2, hsl, show b * (q + 1) = p1 by rw [Nat.mul_add]; omega, ← hhd] at ES
  have BS := fun W => cBlockSize_c al ka kn kc W
  rw [hbs] at BS
  have e1 : IntKind.i64.wrap ((n : Int) + b) = ((n + b : Nat) : Int) := by rw [IntKind.wrap_i64] <;> omega
  have e2 : IntKind.i64.wrap (((n + b : Nat) : Int) - 1) = ((n + b - 1 : Nat) : Int) := by rw [IntKind.wrap_i64] <;> omega
  have e3 : ((n + b - 1 : Nat) : Int).tdiv b = ((q + 2 : Nat) : Int) := by
    have : (n + b - 1) / b = q + 2 := by
      rw [show n + b - 1 = (tl - 1) + b * (q + 2) by rw [Nat.mul_add]; omega, Nat.add_mul_div_left _ _ (by omega), Nat.div_eq_of_lt (by omega)]
      omega
    rw [← this]; exact (Int.ofNat_tdiv _ _).symm
  have e3' : IntKind.i64.wrap ((q + 2 : Nat) : Int) = ((q + 2 : Nat) : Int) := by rw [IntKind.wrap_i64] <;> omega
  have e4 : IntKind.i64.wrap (((q + 2 : Nat) : Int) * b) = (fu : Int) := by
    rw [show ((q + 2 : Nat) : Int) * b = (fu : Int) by rw [hfq]; push_cast; exact Int.mul_comm _ _]
    rw [IntKind.wrap_i64] <;> omega
  have e5 : IntKind.i64.wrap ((fu : Int) - n) = (rs : Int) := by rw [IntKind.wrap_i64] <;> omega
  have e6 : IntKind.i64.wrap (2 * (b : Int)) = ((2 * b : Nat) : Int) := by rw [IntKind.wrap_i64] <;> omega
  have e7 : IntKind.i64.wrap ((fu : Int) - ((2 * b : Nat) : Int)) = (hd : Int) := by rw [IntKind.wrap_i64] <;> omega
  have e8 : IntKind.i64.wrap ((fu : Int) - b) = (p1 : Int) := by rw [IntKind.wrap_i64] <;> omega
  have y0 : ¬ (b : Int) = 0 := by omega
  generalize hk2 : q + 2 = k2 at e3 e3' e4
  generalize hs1 : n + b = s1 at e1 e2 e3
  generalize hs2 : s1 - 1 = s2 at e2 e3
  generalize hb2 : 2 * b = b2 at e6 e7
  have q1 : (hd : Int) ≤ p1 := by omega
  have q2 : (p1 : Int) ≤ fu := by omega
  have q3 : p1 - hd = b := by omega
  have q4 : fu - p1 = b := by omega
  have q5 : (0 : Int) ≤ hd := by omega
  have q6 : (0 : Int) ≤ p1 := by omega
  have q7 : (hd : Int) ≤ fu := by omega
  have q8 : (n : Int) ≤ fu := by omega
  have q9 : (n : Int) ≤ sc := by omega
  have K0 := (Keep.refl w).alloc (.cells #[.int .i64 al, .slice ka kn kc] 36)
  have B0 : Arr (w.alloc (.cells #[.int .i64 al, .slice ka kn kc] 36)) w.heap.size 36 [.int .i64 al, .slice ka kn kc] := Arr.new w 36 _
  have RP := fun W => repeat_c 0 fu W (by omega)
  have RR := fun W => repeat_c 0 rs W (by omega)
  unfold maxLen at hsm him
  have hfn : fu ≠ 0 := by omega
  have hfm : fu ≤ 100100 := by omega
  have hnf : n ≤ fu := by omega
  have hPl : (src ++ List.replicate rs 0).length = fu := by rw [List.length_append, List.length_replicate]; omega
  have HB2 := Hid.mk hb2
  have HK2 := Hid.mk hk2
  have HFQ := Hid.mk hfq
  have HFU := Hid.mk hfu
  have HP1 := Hid.mk hp1
  have HHD := Hid.mk hhd
  have HN := Hid.mk hn
  have HRS := Hid.mk hrs
  clear hb2 hk2 hs1 hs2 hfq hfu hp1 hhd hn hrs hrs2
  go_enter Try.func24, Try.ntmps24
  go_wp2_with fail
  refine (BS _).mono ?_
  rintro e w1 ⟨rfl, k1⟩
  have K1 := K0.trans k1
  have B1 := B0.keep k1
  go_wp2_with fail
  refine (RP _).mono ?_
  rintro e w2 ⟨tv, rfl, ot, k2'⟩
  have K2 := K1.trans k2'
  have B2 := B1.keep k2'
  obtain ⟨gt, tc, sp, hte, ht1, ht2, ht3, ht4⟩ := own_win ot (by rw [List.length_replicate]; exact hfn)
  rw [List.length_replicate] at hte ht3
  subst hte
  unfold maxLen at ht4
  have hzt : w.heap.size ≤ gt := Nat.le_trans K1.size ht1
  have qa : (fu : Int) ≤ tc := by omega
  have JN := fun W v (hk : Keep w2 W) (hv : Bs W v (List.replicate rs 0)) => join_c (.slice (some ⟨sb, so, none⟩) n sc) v src (List.replicate rs 0) W ((hsv.keep K2).keep hk) hv (by rw [← List.length_append, hPl]; omega)
  have CB := fun W v (hk : Keep w2 W) (hv : Bs W v (src ++ List.replicate rs 0)) (hg : v.ownBlock ≠ some gt) => CBCEncrypt_c al ka kn kc key f b (q + 2) fu (.slice (some ⟨ib, io, none⟩) b ic) v iv (src ++ List.replicate rs 0) (List.replicate fu 0) gt tc sp W hC hbs hb0 hb1 hq HFQ.out hkl ((hkb.keep K2).keep hk) (hkb.block hkl hzt) ((hiv.keep K2).keep hk) hil (hiv.block (by omega) hzt) hv hPl hg (ht2.keep hk) (by simp) (by simpa using ht3) (by unfold maxLen; omega)
  have LX := cbcE_length hC.1 hil (src := src ++ List.replicate rs 0) (m := q + 2) (by rw [hPl, HFQ.out]; exact Nat.le_refl _) (q + 2) (Nat.le_refl _)
  rw [← HFQ.out] at LX
  generalize hXX : cbcE f b iv (src ++ List.replicate rs 0) (q + 2) = X at *
  rw [List.drop_of_length_le (by simp), List.append_nil] at CB
  have c0 := B2.cell 0
  have c1 := B2.cell 1
  simp only [List.getElem?_cons_zero, List.getElem?_cons_succ] at c0 c1
  have hlt := ht2.lt
  have hK2z := K2.size
  have hBlt : w.heap.size < w2.heap.size := B2.lt
  have hBt : w.heap.size ≠ gt := by have : w.heap.size < w1.heap.size := B1.lt; omega
  clear hbs BS RP ot
  go_upto_region 4 with fail
  obtain ⟨gB, hgB⟩ : ∃ gB, gB = w.heap.size := ⟨_, rfl⟩
  rw [← hgB] at c0 c1 hBt hBlt
  rw [← hgB]
  clear hgB
  go_cut [11] from 26 to 36 (fun ev wx => ev = .int .i64 0 ∧ Win wx gt 5 [] X sp ∧ w2.grownBy wx (some gt))
  case first => 
    go_region_held3 (fun W => W.cell? ⟨gB, 0, none⟩ = some (.int .i64 al) ∧ W.cell? ⟨gB, 1, none⟩ = some (.slice ka kn kc))
      (first | assumption | exact ⟨c0, c1⟩ | exact ⟨cell_grown c0 Q3 hBt, cell_grown c1 Q3 hBt⟩ | exact ⟨Q2.cell c0, Q2.cell c1⟩ | exact ⟨Q1.cell c0, Q1.cell c1⟩)
      (first
      | (go_at_call 18; refine (RR _).mono ?_; rintro x z1 ⟨u1, rfl, o1, qq1⟩; have Q1 : Keep w2 z1 := (Keep.refl w2).drew.trans qq1)
      | (go_at_call 17; refine (JN _ _ Q1 o1.bs).mono ?_; rintro x z2 ⟨u2, rfl, o2, qq2⟩; have Q2 : Keep w2 z2 := Q1.trans qq2; have hz2 := Q1.size)
      | (go_at_call 50; refine (CB _ _ Q2 o2.bs (fun h => by have := (o2.lt _ h).1; omega)).mono ?_; rintro x z3 ⟨rfl, wi3, g3⟩; have Q3 : w2.grownBy z3 (some gt) := grown_trans (keep_grown Q2 _) g3))
    go_wp2_with fail
    go_meet
    case rel => exact ⟨rfl, wi3, Q3⟩
  case rest =>
    obtain ⟨rfl, wi3, g3⟩ := hcut
    have XB := wi3.bs (n := fu) (c := tc) LX.symm (by omega) (by unfold maxLen; omega)
    have XA := XB.part (i := 0) (j := hd) (by omega) (by omega) (some ⟨gt, 0, none⟩) (fun _ => by simp [Addr.add])
    have XC := XB.part (i := p1) (j := fu) (by omega) (by omega) (some ⟨gt, p1, none⟩) (fun _ => by have : p1 ≠ 0 := (by omega); simp [Addr.add, this])
    have XD := XB.part (i := hd) (j := p1) (by omega) (by omega) (some ⟨gt, hd, none⟩) (fun _ => by simp [Addr.add])
    rw [Nat.sub_zero, Nat.sub_zero, List.drop_zero] at XA
    rw [q4, List.take_of_length_le (by rw [List.length_drop]; omega)] at XC
    rw [q3] at XD
    have lC : (X.drop p1).length = b := by rw [List.length_drop]; omega
    have lD : ((X.drop hd).take b).length = b := by rw [List.length_take, List.length_drop]; omega
    have lA : (X.take hd).length = hd := by rw [List.length_take]; omega
    have J1 := fun W (hk : Keep wc W) => join_c _ _ _ _ W (XC.keep hk) (XD.keep hk) (by omega)
    have J2 := fun W v (hk : Keep wc W) (hv : Bs W v (X.drop p1 ++ (X.drop hd).take b)) => join_c _ _ _ _ W (XA.keep hk) hv (by rw [List.length_append]; omega)
    have lJ : (X.take hd ++ (X.drop p1 ++ (X.drop hd).take b)).length = fu := by rw [List.length_append, List.length_append]; omega
    have KW : Keep w wc := K2.grown g3 (fun q hq => by simp at hq; omega)
    have z1 : ¬ tc = p1 := by omega
    have z2 : ¬ tc = hd := by omega
    have z3 : (p1 : Int) ≤ tc := by omega
    have z5 : (hd : Int) ≤ tc := by omega
    clear CB JN RR g3 wi3 XB XA XC XD c0 c1
    go_wp2_with fail
    go_cut [12] from 37 to 58 (fun jv wx => ∃ ja jc, jv = .slice ja fu jc ∧ fu ≤ jc ∧ jc ≤ 2 ^ 63 - 1 ∧ Bs wx (.slice ja fu jc) (X.take hd ++ (X.drop p1 ++ (X.drop hd).take b)) ∧ Keep wc wx)
    case first =>
      go_region_held3 (fun _ => True) (trivial)
        (first
        | ((fail_if_success have := Q1); go_at_call 17; refine (J1 _ (Keep.refl wc).drew).mono ?_; rintro x z1 ⟨u1, rfl, o1, qq1⟩; have Q1 : Keep wc z1 := (Keep.refl wc).drew.trans qq1)
        | (go_at_call 17; refine (J2 _ _ Q1 o1.bs).mono ?_; rintro x z2 ⟨u2, rfl, o2, qq2⟩; have Q2 : Keep wc z2 := Q1.trans qq2))
      go_wp2_with fail
      go_meet
      case rel =>
        obtain ⟨ja, jc, rfl, j1, j2, -⟩ := o2.bs.form
        have hb' := o2.bs
        rw [lJ] at j1 hb' ⊢
        exact ⟨ja, jc, rfl, j1, j2, hb', Q2⟩
    case rest =>
      obtain ⟨ja, jc, rfl, j1, j2, j3, k4⟩ := hcut
      have JP := j3.part (i := 0) (j := n) (by omega) hnf ja (fun _ => by cases ja <;> simp [Addr.add])
      rw [Nat.sub_zero, Nat.sub_zero, List.drop_zero, ES] at JP
      have z4 : (n : Int) ≤ jc := by omega
      clear J1 J2 j3
      go_wp2_with fail
      go_ret2
      exact ⟨_, rfl, JP, KW.trans k4⟩
end Go.Proofs.Qxb6500769a
