/- modes: CTSDecrypt over one block. -/
import Derived.Test.Qxb6500769aDr
namespace Go.Proofs.Qxb6500769a
open Go.RowKit Go.Qm
set_option linter.unusedVariables false
set_option linter.unusedSimpArgs false
attribute [local go_sem ↓] Go.wp_at_zero Go.wp_at_succ

theorem cdp_pre {b : Nat} {iv src src' : List UInt8} : ∀ k, src.take (b * k) = src'.take (b * k) → cdp b iv src k = cdp b iv src' k
  | 0, _ => rfl
  | k + 1, h => by
    have e1 : ∀ s : List UInt8, (s.drop (b * k)).take b = (s.take (b * (k + 1))).drop (b * k) := by
      intro s
      rw [List.drop_take, Nat.mul_add, Nat.mul_one, Nat.add_sub_cancel_left]
    rw [cdp, cdp, e1, e1, h]
theorem cbcD_pre {f : List UInt8 → List UInt8} {b : Nat} {iv src src' : List UInt8} : ∀ k, src.take (b * k) = src'.take (b * k) → cbcD f b iv src k = cbcD f b iv src' k
  | 0, _ => rfl
  | k + 1, h => by
    have e1 : ∀ s : List UInt8, (s.drop (b * k)).take b = (s.take (b * (k + 1))).drop (b * k) := by
      intro s
      rw [List.drop_take, Nat.mul_add, Nat.mul_one, Nat.add_sub_cancel_left]
    have e2 : src.take (b * k) = src'.take (b * k) := by
      have := congrArg (List.take (b * k)) h
      rwa [List.take_take, List.take_take, Nat.min_eq_left (Nat.mul_le_mul_left b (Nat.le_succ k))] at this
    rw [cbcD, cbcD, cbcD_pre k e2, cdp_pre k e2, e1, e1, h]
theorem xorl_comm {a b : List UInt8} (h : a.length ≤ b.length) : xorl a b = xork b a a.length := by
  unfold xorl xork
  apply List.map_congr_left
  intro i _
  exact UInt8.xor_comm _ _
theorem own_slice {B : Nat} {w : World} {v : Value} {l : List UInt8} (h : Own B 5 w v (l.map cb)) (hl : l.length ≠ 0) : ∃ gx gc, v = .slice (some ⟨gx, 0, none⟩) l.length gc ∧ B ≤ gx ∧ gx < w.heap.size ∧ l.length ≤ gc ∧ gc ≤ maxLen := by
  rcases h.2 with ⟨rfl, h0⟩ | ⟨g, cap, cur, rfl, hb, hg, hnc, hcm, hcs, htake⟩
  · simp at h0; exact absurd (by simpa using h0) hl
  · refine ⟨g, cap, by simp, hb, ?_, by simpa using hnc, hcm⟩
    have := h.lt g (by simp [Value.ownBlock])
    exact this.2
theorem upd_at (A Y cur : List UInt8) (p : Nat) (z : UInt8) (hp : p = A.length + Y.length) (hc : p < cur.length) : (A ++ (Y ++ cur.drop p)).set p z = A ++ ((Y ++ [z]) ++ cur.drop (p + 1)) := by
  rw [List.set_append_right _ _ (by omega), List.set_append_right _ _ (by omega), show p - A.length - Y.length = 0 by omega, ← List.getElem_cons_drop (h := hc), List.set_cons_zero, List.append_assoc Y]
  rfl
set_option maxRecDepth 3000 in
set_option maxHeartbeats 4000000 in
theorem CTSD_c (al : Int) (ka : Option Addr) (kn kc : Nat) (key : List UInt8) (f : List UInt8 → List UInt8) (b n q tl : Nat) (ivv sv : Value) (iv src cur : List UInt8) (g dc : Nat) (sp : List Value) (w : World)
    (hC : Cip 46 b al (.slice ka kn kc) key f) (hbs : bsz16 al = b) (hb0 : b ≠ 0) (hb1 : b ≤ 16) (hn : n = b * q + b + tl) (h1 : 1 ≤ tl) (ht : tl ≤ b) (hnm : n ≤ 100000)
    (hkl : key.length ≠ 0) (hkb : Bs w (.slice ka kn kc) key) (hkg : (Value.slice ka kn kc).ownBlock ≠ some g)
    (hiv : Bs w ivv iv) (hil : iv.length = b) (hig : ivv.ownBlock ≠ some g)
    (hsv : Bs w sv src) (hsl : src.length = n) (hsg : sv.ownBlock ≠ some g)
    (hw : Win w g 5 [] cur sp) (hcl : cur.length = n) (hdc : cur.length ≤ dc) (hdm : dc ≤ maxLen) :
    Calls Try.prog 20 #[.agg #[.int .i64 al, .slice ka kn kc], ivv, .slice (some ⟨g, 0, none⟩) n dc, sv] w fun e w' =>
      e = .returned (.int .i64 0) ∧ Win w' g 5 [] (ctsD f b iv src q tl) sp ∧ w.grownBy w' (some g) := by
  obtain ⟨sb, so, sc, rfl, hsc, hsm⟩ := bs_some hsv (by omega)
  obtain ⟨ib, io, ic, rfl, hic, him⟩ := bs_some hiv (by omega)
  rw [hsl] at hsv hsg hsc ⊢
  rw [hil] at hiv hig hic ⊢
  obtain ⟨hd, hhd⟩ : ∃ hd, hd = b * q := ⟨_, rfl⟩
  obtain ⟨p1, hp1⟩ : ∃ p1, p1 = hd + b := ⟨_, rfl⟩
  have TN := tailN_eq hb0 hn h1 ht
  have SP := fun W => split_c n b W hb0 hb1 (by omega) hnm
  rw [TN, show n - b - tl = hd by omega] at SP
  have hq : q + 1 ≤ 100000 := by
    have : q ≤ b * q := Nat.le_mul_of_pos_left q (by omega)
    omega
  have hp0 : p1 ≠ 0 := by omega
  have hs1 : b * (q + 1) ≤ src.length := by rw [hsl, Nat.mul_add]; omega
  have LA : (cbcD f b iv src q).length = hd := by rw [cbcD_length hC.1 hil hs1 q (by omega), hhd]
  have LV := cdp_length hil hs1 q (by omega)
  have hp1q : p1 = b * (q + 1) := by rw [Nat.mul_add]; omega
  have ECB : cbcD f b iv (src.take hd) q = cbcD f b iv src q := cbcD_pre (src' := src) q (by rw [← hhd, List.take_take, Nat.min_self])
  have LK : ((src.drop hd).take b).length = b := by rw [hhd]; exact blk_length hs1 (by omega)
  have LO := hC.1 _ LK
  have hld : (src.drop p1).length = tl := by rw [List.length_drop]; omega
  have LSS : (src.drop p1 ++ (f ((src.drop hd).take b)).drop tl).length = b := by rw [List.length_append, hld, List.length_drop, LO]; omega
  have LP := hC.1 _ LSS
  have EC : Hid (ctsD f b iv src q tl = cbcD f b iv src q ++ (xorl (f (src.drop p1 ++ (f ((src.drop hd).take b)).drop tl)) (cdp b iv src q) ++ xorl (src.drop p1) (f ((src.drop hd).take b)))) := Hid.mk (by rw [hp1q, hhd]; rfl)
  have EV : (hd = 0 → cdp b iv src q = iv) ∧ (hd ≠ 0 → b ≤ hd ∧ cdp b iv src q = (src.drop (hd - b)).take b) := by
    cases q with
    | zero => exact ⟨fun _ => rfl, fun h => absurd (by rw [hhd]; rfl) h⟩
    | succ k =>
      have e : hd - b = b * k := by rw [hhd, Nat.mul_add]; omega
      refine ⟨fun h => ?_, fun _ => ⟨?_, ?_⟩⟩
      · rw [hhd, Nat.mul_add] at h; omega
      · rw [hhd, Nat.mul_add]; omega
      · rw [cdp, e]
  have hpart0 := hsv.part (i := p1) (j := n) (by omega) (Nat.le_refl _) (some ⟨sb, so + p1, none⟩) (fun _ => by simp [Addr.add, hp0])
  rw [List.take_of_length_le (by omega), show n - p1 = tl by omega] at hpart0
  have hpart1 := hsv.part (i := 0) (j := hd) (by omega) (by omega) (some ⟨sb, so, none⟩) (fun _ => by simp [Addr.add])
  rw [List.drop_zero, Nat.sub_zero, Nat.sub_zero] at hpart1
  have hpart2 := hsv.part (i := hd) (j := p1) (by omega) (by omega) (some ⟨sb, so + hd, none⟩) (fun _ => by simp [Addr.add])
  rw [show p1 - hd = b by omega] at hpart2
  have hpart3 : b ≤ hd → Bs w (.slice (some ⟨sb, so + (hd - b), none⟩) b (sc - (hd - b))) ((src.drop (hd - b)).take b) := fun h => by
    have := hsv.part (i := hd - b) (j := hd) (by omega) (by omega) (some ⟨sb, so + (hd - b), none⟩) (fun _ => by simp [Addr.add])
    rwa [show hd - (hd - b) = b by omega] at this
  have IB := fun gx (h : w.heap.size ≤ gx) => hiv.block (by omega) h
  have SB := fun gx (h : w.heap.size ≤ gx) => hsv.block (by omega) h
  have FI := fun W => fit_c al ka kn kc (some ⟨ib, io, none⟩) (some ⟨g, 0, none⟩) (some ⟨sb, so, none⟩) b n ic dc sc W hbs hb0 hb1
  have hmk := run_make1 (P := Try.prog) Try.underlying27 inf5 rfl (b : Int) (b : Int) (by omega) (by omega) (by omega) (by omega)
  have hmt := run_make1 (P := Try.prog) Try.underlying27 inf5 rfl (tl : Int) (tl : Int) (by omega) (by omega) (by omega) (by omega)
  have K0 := (Keep.refl w).alloc (.cells #[.int .i64 al, .slice ka kn kc] 36)
  have B0 : Arr (w.alloc (.cells #[.int .i64 al, .slice ka kn kc] 36)) w.heap.size 36 [.int .i64 al, .slice ka kn kc] := Arr.new w 36 _
  have hgw := hw.lt
  have CB := fun W dcur (hkb : Bs W (.slice ka kn kc) key) hiv hpart hw (hnc : hd ≤ dcur.length) hdc => cbcDecrypt_c al ka kn kc key f b q hd (.slice (some ⟨ib, io, none⟩) b ic) (.slice (some ⟨sb, so, none⟩) hd sc) iv (src.take hd) dcur g dc sp W hC hb0 hb1 (by omega) hhd hkl hkb hkg hiv hil hig hpart (by rw [List.length_take]; omega) hsg hw hnc hdc hdm
  rw [ECB] at CB
  have hfl := hC.1
  have HC := Hid.mk hC
  generalize hXX : cbcD f b iv src q = A at *
  generalize hVV : cdp b iv src q = V at *
  generalize hDD : src.drop p1 = D at *
  have y0 : ((n : Int) == (b : Int)) = false := by simp; omega
  have y1 : ¬ (n : Int) < b := by omega
  have e1 : IntKind.i64.wrap ((hd : Int) + b) = (p1 : Int) := by rw [IntKind.wrap_i64] <;> omega
  have q1 : (p1 : Int) ≤ n := by omega
  have q2 : (p1 : Int) ≤ sc := by omega
  have q3 : ¬ sc = p1 := by omega
  have q4 : n - p1 = tl := by omega
  have q5 : (hd : Int) ≤ p1 := by omega
  have q6 : (hd : Int) ≤ dc := by omega
  have q7 : ¬ sc = hd := by omega
  have q9 : p1 - hd = b := by omega
  have qb : (n : Int) ≤ sc := by omega
  have qd : (0 : Int) ≤ p1 := by omega
  have qe : (0 : Int) ≤ hd := by omega
  have qf : (hd : Int) ≤ sc := by omega
  unfold maxLen at hdm hsm him
  have HN := Hid.mk hn
  have HD := Hid.mk hhd
  have HP := Hid.mk hp1
  have HQ := Hid.mk hp1q
  have HIL := Hid.mk hil
  clear hn hhd hp1 hp1q TN hbs ECB hs1 hsl hil
  go_enter Try.func20, Try.ntmps20
  go_wp2_with fail
  refine (FI _).mono ?_
  rintro e w1 ⟨rfl, k1⟩
  have K1 := K0.trans k1
  have B1 := B0.keep k1
  go_wp2_with fail
  refine (SP _).mono ?_
  rintro e w2 ⟨rfl, k2⟩
  have K2 := K1.trans k2
  have B2 := B1.keep k2
  have W3 := rep_winD w2 b
  have K3 := K2.alloc (.cells (rep b (.int .u8 0)) 5)
  have B3 := B2.keep ((Keep.refl _).alloc (.cells (rep b (.int .u8 0)) 5))
  have hz : w2.heap.size ≠ w.heap.size := by
    have := k1.size; have := k2.size
    have : (w.alloc (.cells #[.int .i64 al, .slice ka kn kc] 36)).heap.size = w.heap.size + 1 := World.size_alloc _ _
    omega
  have hz2 : w.heap.size ≤ w2.heap.size := K2.size
  go_upto_region 11 with fail
  obtain ⟨w3, hw3⟩ : ∃ w3, w3 = w2.alloc (.cells (rep b (.int .u8 0)) 5) := ⟨_, rfl⟩
  rw [← hw3] at W3 K3 B3
  rw [← hw3]
  clear hw3
  obtain ⟨gB, hgB⟩ : ∃ gB, gB = w.heap.size := ⟨_, rfl⟩
  obtain ⟨gb, hgb⟩ : ∃ gb, gb = w2.heap.size := ⟨_, rfl⟩
  rw [← hgB] at B3
  rw [← hgb] at W3
  rw [← hgB, ← hgb]
  have n1 : g ≠ gB := by omega
  have n2 : g ≠ gb := by omega
  have n3 : gB ≠ gb := by omega
  have m1 : w.heap.size ≤ gb := by omega
  clear hgB hgb hz hz2 B2 B1 B0 K0 K1 K2 k1 k2
  go_upto_if 55 with fail
  go_cut [66] from 56 to 66 (fun _ wx => Win wx gb 5 [] V [] ∧ w3.grownBy wx (some gb))
  case first =>
    by_cases hd0 : hd = 0
    · obtain ⟨W4, hcp, win, grc⟩ := copy_in (P := Try.prog) (t := 27) Try.underlying27 siz5 W3 (hiv.keep K3) (o := 0) (k := 0) (n := b) (dLen := b) (dCap := b) (by simp) (by rw [HIL.out]; simp) (by simp)
      have hL : (List.replicate b (0 : UInt8)).take 0 ++ iv.take b ++ (List.replicate b (0 : UInt8)).drop (0 + b) = V := by
        rw [EV.1 hd0, List.take_of_length_le (l := iv) (by rw [HIL.out]; exact Nat.le_refl _)]; simp
      rw [hL] at win
      have z1 : ((hd : Int) == 0) = true := by simp; omega
      clear EV hL
      go_wp2_with fail
      go_meet
      case rel => exact ⟨win, grc⟩
    · obtain ⟨hbd, eV⟩ := EV.2 hd0
      obtain ⟨W4, hcp, win, grc⟩ := copy_in (P := Try.prog) (t := 27) Try.underlying27 siz5 W3 ((hpart3 hbd).keep K3) (o := 0) (k := 0) (n := b) (dLen := b) (dCap := b) (by simp) (by rw [← eV, LV]; simp) (by simp)
      have hL : (List.replicate b (0 : UInt8)).take 0 ++ ((src.drop (hd - b)).take b).take b ++ (List.replicate b (0 : UInt8)).drop (0 + b) = V := by
        rw [← eV, List.take_of_length_le (l := V) (by omega)]; simp
      rw [hL] at win
      have z1 : ((hd : Int) == 0) = false := by simp; omega
      obtain ⟨h0, hh0⟩ : ∃ h0, h0 = hd - b := ⟨_, rfl⟩
      rw [← hh0] at hcp
      have z2 : IntKind.i64.wrap ((hd : Int) - b) = (h0 : Int) := by rw [IntKind.wrap_i64] <;> omega
      have z3 : (h0 : Int) ≤ hd := by omega
      have z4 : (0 : Int) ≤ h0 := by omega
      have z5 : hd - h0 = b := by omega
      have z6 : ¬ sc = h0 := by omega
      clear EV eV hL hh0 hpart3 hd0
      go_wp2_with fail
      go_meet
      case rel => exact ⟨win, grc⟩
  case rest =>
    obtain ⟨V4, gr4⟩ := hcut
    have B4 := B3.kept gr4 n3
    have H4 := (hw.keep K3).kept gr4 n2
    have G4 : w.grownBy wc (some g) := grown_new (keep_grown K3 _) gr4 m1
    have hkgb : (Value.slice ka kn kc).ownBlock ≠ some gb := hkb.block hkl m1
    have hz5 : w.heap.size ≤ wc.heap.size := G4.size
    have hgb5 : gb < wc.heap.size := V4.lt
    have hgB5 : gB < wc.heap.size := B4.lt
    have K5 := (Keep.refl wc).alloc (.cells (rep tl (.int .u8 0)) 5)
    have W5 := rep_winD wc tl
    have P5 := ((hpart0.keep K3).kept gr4 (SB gb m1)).keep K5
    obtain ⟨W6, hcp6, win6, gr6⟩ := copy_in (P := Try.prog) (t := 27) Try.underlying27 siz5 W5 P5 (o := 0) (k := 0) (n := tl) (dLen := tl) (dCap := tl) (by simp) (by rw [hld]; simp) (by simp)
    have hL6 : (List.replicate tl (0 : UInt8)).take 0 ++ D.take tl ++ (List.replicate tl (0 : UInt8)).drop (0 + tl) = D := by
      rw [List.take_of_length_le (l := D) (by omega)]; simp
    rw [hL6] at win6
    obtain ⟨gh, hgh⟩ : ∃ gh, gh = wc.heap.size := ⟨_, rfl⟩
    rw [← hgh] at win6 gr6
    have n4 : g ≠ gh := by omega
    have n5 : gb ≠ gh := by omega
    have n6 : gB ≠ gh := by omega
    have m2 : w.heap.size ≤ gh := by omega
    have B6 := (B4.keep K5).kept gr6 n6
    have H6 := (H4.keep K5).kept gr6 n4
    have V6 := (V4.keep K5).kept gr6 n5
    have G6 : w.grownBy W6 (some g) := grown_new (grown_keep G4 K5) gr6 m2
    have E6 := hkb.kept G6 hkg
    have I6 := hiv.kept G6 hig
    have Q6 := hpart2.kept G6 hsg
    have R6 := hpart1.kept G6 hsg
    clear hL6 W5 P5 gr4 V4 H4 G4 B4 K3 B3 hpart0 hpart1 hpart2 hpart3 EV W3 FI SP hw
    go_upto_region 16 with fail
    try rw [← hgh]
    clear hgh hcp6 gr6 K5
    have CE : ∀ W u bl, Bs W (.slice ka kn kc) key → Bs W u bl → bl.length = b → Calls Try.prog 46 #[.agg #[.int .i64 al, .slice ka kn kc], u] W fun x w' => ∃ gx oc, x = .returned (.slice (some ⟨gx, 0, none⟩) b oc) ∧ W.heap.size ≤ gx ∧ gx < w'.heap.size ∧ b ≤ oc ∧ oc ≤ 2 ^ 63 - 1 ∧ Bs w' (.slice (some ⟨gx, 0, none⟩) b oc) (f bl) ∧ Keep W w' := by
      intro W u bl h1 h2 h3
      refine (HC.out.2 W _ bl h1 h2 h3).mono ?_
      rintro x w' ⟨v', rfl, o', q⟩
      have hl := hfl bl h3
      obtain ⟨gx, gc, rfl, a1, a2, a3, a4⟩ := own_slice o' (by omega)
      have hbs := o'.bs
      rw [hl] at hbs a3 ⊢
      exact ⟨gx, gc, rfl, a1, a2, a3, a4, hbs, q⟩
    have CE1 := fun W (hk : Keep W6 W) => CE W _ _ (E6.keep hk) (Q6.keep hk) LK
    have c0 := B6.cell 0
    have c1 := B6.cell 1
    simp only [List.getElem?_cons_zero, List.getElem?_cons_succ] at c0 c1
    generalize hOO : f ((src.drop hd).take b) = O at *
    go_cut [15] from 76 to 83 (fun ov wx => ∃ gx oc, ov = .slice (some ⟨gx, 0, none⟩) b oc ∧ W6.heap.size ≤ gx ∧ gx < wx.heap.size ∧ b ≤ oc ∧ oc ≤ 2 ^ 63 - 1 ∧ Bs wx (.slice (some ⟨gx, 0, none⟩) b oc) O ∧ Keep W6 wx)
    case first => as_aux_lemma =>
      go_region_held3 (fun W => W.cell? ⟨gB, 0, none⟩ = some (.int .i64 al) ∧ W.cell? ⟨gB, 1, none⟩ = some (.slice ka kn kc))
        (first | assumption | exact ⟨c0, c1⟩ | exact ⟨Q1.cell c0, Q1.cell c1⟩)
        ((go_at_call 46; refine (CE1 _ (Keep.refl W6).drew).mono ?_; rintro x y ⟨gx, oc, rfl, o1, o2, o3, o4, o5, qq⟩; have Q1 : Keep W6 y := (Keep.refl W6).drew.trans qq))
      go_wp2_with fail
      go_meet
      case rel => exact ⟨gx, oc, rfl, o1, o2, o3, o4, o5, Q1⟩
    case rest =>
      obtain ⟨go, oc, rfl, o1, o2, o3, o4, o5, k7⟩ := hcut
      obtain ⟨w7, hw7⟩ : ∃ w7, w7 = wc := ⟨_, rfl⟩
      subst hw7
      have hlt6 := H6.lt
      have hltB := B6.lt
      have hltb := V6.lt
      have hlth := win6.lt
      have n7 : g ≠ go := by omega
      have B7 := B6.keep k7
      have H7 := H6.keep k7
      have V7 := V6.keep k7
      have D7 := win6.keep k7
      have G7 : w.grownBy w7 (some g) := grown_keep G6 k7
      have CBW := fun W (hk : Keep w7 W) => CB W cur ((E6.keep k7).keep hk) ((I6.keep k7).keep hk) ((R6.keep k7).keep hk) (H7.keep hk) (by omega) (by omega)
      have c0 := B7.cell 0
      have c1 := B7.cell 1
      simp only [List.getElem?_cons_zero, List.getElem?_cons_succ] at c0 c1
      clear CE1 CB Q6 I6 R6 B6 H6 V6 win6 G6 E6
      go_wp2_with fail
      go_cut [93] from 84 to 93 (fun _ wx => Win wx g 5 [] (A ++ cur.drop hd) sp ∧ w7.grownBy wx (some g))
      case first => as_aux_lemma =>
        go_region_held3 (fun W => W.cell? ⟨gB, 0, none⟩ = some (.int .i64 al) ∧ W.cell? ⟨gB, 1, none⟩ = some (.slice ka kn kc))
          (first | assumption | exact ⟨c0, c1⟩ | exact ⟨cell_grown c0 Q1 (Ne.symm n1), cell_grown c1 Q1 (Ne.symm n1)⟩)
          ((go_at_call 45; refine (CBW _ (Keep.refl w7).drew).mono ?_; rintro x y ⟨rfl, hw5, g5⟩; have Q1 : w7.grownBy y (some g) := grown_trans (keep_grown (Keep.refl w7).drew _) g5))
        go_wp2_with fail
        go_meet
        case rel => exact ⟨hw5, Q1⟩
      case rest =>
        obtain ⟨H8, gr8⟩ := hcut
        have O8 := o5.kept gr8 (by simpa [Value.ownBlock] using Ne.symm n7)
        have B8 := B7.kept gr8 (Ne.symm n1)
        have V8 := V7.kept gr8 (Ne.symm n2)
        have D8 := D7.kept gr8 (Ne.symm n4)
        have G8 : w.grownBy wc (some g) := grown_trans G7 gr8
        have hz8 : w.heap.size ≤ wc.heap.size := G8.size
        have hgb8 : gb < wc.heap.size := V8.lt
        have hgB8 : gB < wc.heap.size := B8.lt
        have hgh8 : gh < wc.heap.size := D8.lt
        have hg8 : g < wc.heap.size := H8.lt
        have hgo8 : go < wc.heap.size := Nat.lt_of_lt_of_le o2 gr8.size
        have K9 := (Keep.refl wc).alloc (.cells (rep b (.int .u8 0)) 5)
        have W9 := rep_winD wc b
        obtain ⟨Wa, hcpa, wina, gra⟩ := copy_in (P := Try.prog) (t := 27) Try.underlying27 siz5 W9 (O8.keep K9) (o := 0) (k := 0) (n := b) (dLen := b) (dCap := b) (by simp) (by rw [LO]; simp) (by simp)
        have hLa : (List.replicate b (0 : UInt8)).take 0 ++ O.take b ++ (List.replicate b (0 : UInt8)).drop (0 + b) = O := by
          rw [List.take_of_length_le (l := O) (by omega)]; simp
        rw [hLa] at wina
        obtain ⟨gs, hgs⟩ : ∃ gs, gs = wc.heap.size := ⟨_, rfl⟩
        rw [← hgs] at wina gra
        have n8 : g ≠ gs := by omega
        have n9 : gb ≠ gs := by omega
        have na : gB ≠ gs := by omega
        have nb : gh ≠ gs := by omega
        have nc : go ≠ gs := by omega
        have m3 : w.heap.size ≤ gs := by omega
        have Da := (D8.keep K9).kept gra nb
        obtain ⟨Wb, hcpb, winb, grb⟩ := copy_in (P := Try.prog) (t := 27) Try.underlying27 siz5 wina (Da.bs (n := tl) (c := tl) hld.symm (Nat.le_refl _) (by unfold maxLen; omega)) (o := 0) (k := 0) (n := tl) (dLen := b) (dCap := b) (by simp) (by rw [hld]; omega) (by omega)
        have hLb : O.take 0 ++ D.take tl ++ O.drop (0 + tl) = D ++ O.drop tl := by
          rw [List.take_of_length_le (l := D) (by omega)]; simp
        rw [hLb] at winb
        rw [hgs] at hcpb
        have grab : (wc.alloc (.cells (rep b (.int .u8 0)) 5)).grownBy Wb (some gs) := grown_trans gra grb
        have Bb := (B8.keep K9).kept grab na
        have Vb := (V8.keep K9).kept grab n9
        have Db := (D8.keep K9).kept grab nb
        have Hb := (H8.keep K9).kept grab n8
        have Ob := (O8.keep K9).kept grab (by simpa [Value.ownBlock] using nc)
        have Gb : w.grownBy Wb (some g) := grown_new (grown_keep G8 K9) grab m3
        have Eb := hkb.kept Gb hkg
        have Tb := winb.bs (n := b) (c := b) LSS.symm (Nat.le_refl _) (by unfold maxLen; omega)
        have CE2 := fun W (hk : Keep Wb W) => CE W _ _ (Eb.keep hk) (Tb.keep hk) LSS
        generalize hPP : f (D ++ O.drop tl) = Pn at *
        have c0' := Bb.cell 0
        have c1' := Bb.cell 1
        simp only [List.getElem?_cons_zero, List.getElem?_cons_succ] at c0' c1'
        clear CE hLa hLb W9 wina Da gra grb grab O8 B8 V8 D8 H8 G8 B7 V7 D7 H7 G7 c0 c1 Eb Tb winb CBW o5 gr8
        go_wp2_with fail
        rw [← hgs]
        refine (CE2 _ (Keep.refl Wb)).mono ?_
        rintro x w9 ⟨gp, pc, rfl, p1a, p1b, p1c, p1d, p5, k9⟩
        have hltg := Hb.lt
        have nd : g ≠ gp := by omega
        have P9 : Win w9 g 5 [] (A ++ cur.drop hd) sp := Hb.keep k9
        have V9 := Vb.keep k9
        have D9 := Db.keep k9
        have O9 := Ob.keep k9
        have G9 : w.grownBy w9 (some g) := grown_keep Gb k9
        have EC3 : Hid (ctsD f b iv src q tl = A ++ (xorl Pn V ++ xorl D O)) := EC
        have hbt : hd + b + tl = n := by have := HN.out; have := HD.out; omega
        have hb2 : p1 = hd + b := HP.out
        clear CE2 Hb Vb Db Ob Gb Bb K9 hcpa hcpb hgs c0' c1' EC hXX hVV hDD hOO hPP hmk hmt
        go_wp2_with fail
        go_loopw [18, 107] (fun _ iv wx => ∃ (i p : Nat), i ≤ b ∧ p = hd + i ∧ iv = .int .i64 i ∧ Win wx g 5 [] (A ++ (xork Pn V i ++ cur.drop p)) sp ∧ w9.grownBy wx (some g)) (fun _ i _ => b - (intOf i).toNat)
        case atStart => exact ⟨0, hd, by omega, rfl, rfl, by simpa [xork] using P9, grown_refl _ _⟩
        case round => as_aux_lemma =>
          obtain ⟨i, p, hi, hp, rfl, hw', gr⟩ := hrel
          by_cases hib : i < b
          · have hib' : (i : Int) < b := by omega
            have i0 : (0 : Int) ≤ i := by omega
            have e3 : IntKind.i64.wrap ((hd : Int) + i) = (p : Int) := by rw [IntKind.wrap_i64] <;> omega
            have p0 : (0 : Int) ≤ p := by omega
            have pn : (p : Int) < n := by omega
            have hlY : (A ++ (xork Pn V i ++ cur.drop p)).length = n := by rw [List.length_append, List.length_append, xork_length, LA, List.length_drop]; omega
            have hl1 : p < (A ++ (xork Pn V i ++ cur.drop p)).length := by omega
            have cc := hw'.cell (k := p) (o := p) hl1 (by simp)
            obtain ⟨cv, c3⟩ : ∃ cv : Value, wr.cell? ⟨g, p, none⟩ = some cv := ⟨_, cc⟩
            have c1 := bs_cell (p5.kept gr (by simpa [Value.ownBlock] using Ne.symm nd)) (i := i) (by omega)
            rw [Nat.zero_add] at c1
            have c2 := (V9.kept gr (Ne.symm n2)).cell (k := i) (o := i) (by omega) (by simp)
            have e2 : V[i]'(by omega) = V.getD i 0 := by rw [List.getD_eq_getElem?_getD, List.getElem?_eq_getElem (by omega)]; rfl
            rw [e2] at c2
            have EX : xork Pn V (i + 1) = xork Pn V i ++ [Pn.getD i 0 ^^^ V.getD i 0] := xork_succ _ _ _
            generalize Pn.getD i 0 = x at *
            generalize V.getD i 0 = y at *
            have xy := bits_xor8 x y
            have hset := hw'.set (k := p) hl1 (x ^^^ y) (o := p) (by simp)
            have hf := hw'.frozen p
            rw [upd_at A _ cur p _ (by rw [xork_length, LA]; exact hp) (by omega), ← EX] at hset
            have grs := grown_set gr p (.int .u8 (x ^^^ y).toNat)
            generalize x ^^^ y = z at *
            have HS := Hid.mk hset
            have GS := Hid.mk grs
            have HLA := Hid.mk LA
            have HLV := Hid.mk LV
            have HLO := Hid.mk LO
            have HLP := Hid.mk LP
            have HLS := Hid.mk LSS
            have HLK := Hid.mk LK
            have HHP := Hid.mk hp
            have HBT := Hid.mk hbt
            have HB2 := Hid.mk hb2
            have HCL := Hid.mk hcl
            clear hset grs cc hl1 hlY EX hw' gr e2 LA LV LO LP LSS LK hp hbt hb2 hcl P9 V9 D9 O9 G9 p5
            go_wp2_with fail
            go_region
            go_wp2_with fail
            go_roundw
            case rel => exact ⟨i + 1, p + 1, by omega, by have := HHP.out; omega, by go_num, HS.out.drew, grown_drew GS.out⟩
            case measure => simp [intOf]; omega
          · have hib' : ¬ (i : Int) < b := by omega
            have hib2 : i = b := by omega
            have hX : xork Pn V i = xorl Pn V := by unfold xorl; rw [LP, hib2]; rfl
            rw [hX, show p = p1 by omega] at hw'
            have hXl : (xorl Pn V).length = b := by rw [xorl_length, LP]
            generalize xorl Pn V = X at *
            have D10 := D9.kept gr (Ne.symm n4)
            have O10 := O9.kept gr (by simpa [Value.ownBlock] using Ne.symm n7)
            have G10 : w.grownBy wr (some g) := grown_trans G9 gr
            have LAX : (A ++ X).length = p1 := by rw [List.length_append, LA, hXl]; omega
            rw [← List.append_assoc] at hw'
            have EC4 : Hid (ctsD f b iv src q tl = (A ++ X) ++ xorl D O) := Hid.mk (by rw [EC3.out, List.append_assoc])
            generalize A ++ X = AX at *
            obtain ⟨W0, hW0⟩ : ∃ W0, W0 = wr := ⟨_, rfl⟩
            subst hW0
            clear hX hib hib2 hi hp gr EC3 P9 V9 D9 O9 G9 p5 hXl
            go_wp2_with fail
            go_loopw [19, 127] (fun _ iv wx => ∃ (i p : Nat), i ≤ tl ∧ p = p1 + i ∧ iv = .int .i64 i ∧ Win wx g 5 [] (AX ++ (xork O D i ++ cur.drop p)) sp ∧ W0.grownBy wx (some g)) (fun _ i _ => tl - (intOf i).toNat)
            case atStart => exact ⟨0, p1, by omega, rfl, rfl, by simpa [xork] using hw', grown_refl _ _⟩
            case round => as_aux_lemma =>
              obtain ⟨i, p, hi, hp, rfl, hw2, gr⟩ := hrel
              by_cases hib : i < tl
              · have hib' : (i : Int) < tl := by omega
                have hib3 : (i : Int) < b := by omega
                have i0 : (0 : Int) ≤ i := by omega
                have e3 : IntKind.i64.wrap ((p1 : Int) + i) = (p : Int) := by rw [IntKind.wrap_i64] <;> omega
                have p0 : (0 : Int) ≤ p := by omega
                have pn : (p : Int) < n := by omega
                have hlY : (AX ++ (xork O D i ++ cur.drop p)).length = n := by rw [List.length_append, List.length_append, xork_length, LAX, List.length_drop]; omega
                have hl1 : p < (AX ++ (xork O D i ++ cur.drop p)).length := by omega
                have cc := hw2.cell (k := p) (o := p) hl1 (by simp)
                obtain ⟨cv, c3⟩ : ∃ cv : Value, wr.cell? ⟨g, p, none⟩ = some cv := ⟨_, cc⟩
                have c1 := bs_cell (O10.kept gr (by simpa [Value.ownBlock] using Ne.symm n7)) (i := i) (by omega)
                rw [Nat.zero_add] at c1
                have c2 := (D10.kept gr (Ne.symm n4)).cell (k := i) (o := i) (by omega) (by simp)
                have e2 : D[i]'(by omega) = D.getD i 0 := by rw [List.getD_eq_getElem?_getD, List.getElem?_eq_getElem (by omega)]; rfl
                rw [e2] at c2
                have EX : xork O D (i + 1) = xork O D i ++ [O.getD i 0 ^^^ D.getD i 0] := xork_succ _ _ _
                generalize O.getD i 0 = x at *
                generalize D.getD i 0 = y at *
                have xy := bits_xor8 x y
                have hset := hw2.set (k := p) hl1 (x ^^^ y) (o := p) (by simp)
                have hf := hw2.frozen p
                rw [upd_at AX _ cur p _ (by rw [xork_length, LAX]; exact hp) (by omega), ← EX] at hset
                have grs := grown_set gr p (.int .u8 (x ^^^ y).toNat)
                generalize x ^^^ y = z at *
                have HS := Hid.mk hset
                have GS := Hid.mk grs
                have HHP := Hid.mk hp
                clear hset grs cc hl1 hlY EX hw2 hw' gr e2 LA LV LO LP LSS LK hp hbt hb2 hcl D10 O10 G10 hld LAX
                go_wp2_with fail
                go_region
                go_wp2_with fail
                go_roundw
                case rel => exact ⟨i + 1, p + 1, by omega, by have := HHP.out; omega, by go_num, HS.out.drew, grown_drew GS.out⟩
                case measure => simp [intOf]; omega
              · have hib' : ¬ (i : Int) < tl := by omega
                have hib2 : i = tl := by omega
                have hX : xork O D i = xorl D O := by rw [xorl_comm (by omega), hld, hib2]
                rw [hX, List.drop_of_length_le (by omega), List.append_nil, ← EC4.out] at hw2
                have G11 : w.grownBy wr (some g) := grown_trans G10 gr
                clear hX hib2 hib hi hp gr G10 O10 D10 hw'
                go_wp2
                go_ret
                exact ⟨rfl, hw2, G11⟩
end Go.Proofs.Qxb6500769a
