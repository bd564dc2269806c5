/- modes: CTSEncrypt over one block. -/
import Derived.Test.Qxb6500769aDq
import Derived.Test.Qxb6500769aPk
namespace Go.Proofs.Qxb6500769a
open Go.RowKit Go.Qm
set_option linter.unusedVariables false
set_option linter.unusedSimpArgs false
attribute [local go_sem ↓] Go.wp_at_zero Go.wp_at_succ

theorem tailN_eq {n b q tl : Nat} (hb : b ≠ 0) (hn : n = b * q + b + tl) (h1 : 1 ≤ tl) (ht : tl ≤ b) : tailN n b = tl := by
  have e : n % b = tl % b := by rw [hn, show b * q + b + tl = tl + b * (q + 1) by rw [Nat.mul_add]; omega, Nat.add_mul_mod_self_left]
  unfold tailN
  by_cases h : tl = b
  · subst h; rw [e, Nat.mod_self, if_pos rfl]
  · rw [e, Nat.mod_eq_of_lt (by omega), if_neg (by omega)]
set_option maxRecDepth 3000 in
set_option maxHeartbeats 4000000 in
theorem CTSE_c (al : Int) (ka : Option Addr) (kn kc : Nat) (key : List UInt8) (f : List UInt8 → List UInt8) (b n q tl : Nat) (ivv sv : Value) (iv src cur : List UInt8) (g dc : Nat) (sp : List Value) (w : World)
    (hC : Cip 22 b al (.slice ka kn kc) key f) (hbs : bsz16 al = b) (hb0 : b ≠ 0) (hb1 : b ≤ 16) (hn : n = b * q + b + tl) (h1 : 1 ≤ tl) (ht : tl ≤ b) (hnm : n ≤ 100000)
    (hkl : key.length ≠ 0) (hkb : Bs w (.slice ka kn kc) key) (hkg : (Value.slice ka kn kc).ownBlock ≠ some g)
    (hiv : Bs w ivv iv) (hil : iv.length = b) (hig : ivv.ownBlock ≠ some g)
    (hsv : Bs w sv src) (hsl : src.length = n) (hsg : sv.ownBlock ≠ some g)
    (hw : Win w g 5 [] cur sp) (hcl : cur.length = n) (hdc : cur.length ≤ dc) (hdm : dc ≤ maxLen) :
    Calls Try.prog 19 #[.agg #[.int .i64 al, .slice ka kn kc], ivv, .slice (some ⟨g, 0, none⟩) n dc, sv] w fun e w' =>
      e = .returned (.int .i64 0) ∧ Win w' g 5 [] (ctsE f b iv src q tl) sp ∧ w.grownBy w' (some g) := by
  obtain ⟨sb, so, sc, rfl, hsc, hsm⟩ := bs_some hsv (by omega)
  obtain ⟨ib, io, ic, rfl, hic, him⟩ := bs_some hiv (by omega)
  rw [hsl] at hsv hsg hsc ⊢
  rw [hil] at hiv hig hic ⊢
  obtain ⟨hd, hhd⟩ : ∃ hd, hd = b * q := ⟨_, rfl⟩
  obtain ⟨p1, hp1⟩ : ∃ p1, p1 = hd + b := ⟨_, rfl⟩
  have TN := tailN_eq hb0 hn h1 ht
  have SP := fun W => split_c n b W hb0 hb1 (by omega) hnm
  rw [TN, show n - b - tl = hd by omega] at SP
  have hq : q + 1 ≤ 100000 := by
    have : q ≤ b * q := Nat.le_mul_of_pos_left q (by omega)
    omega
  have hp0 : p1 ≠ 0 := by omega
  have hs1 : b * (q + 1) ≤ src.length := by rw [hsl, Nat.mul_add]; omega
  have LA : (cbcE f b iv src q).length = hd := by rw [cbcE_length hC.1 hil hs1 q (by omega), hhd]
  have LS := cbp_length hC.1 hil hs1 (q + 1) (Nat.le_refl _)
  have hp1q : p1 = b * (q + 1) := by rw [Nat.mul_add]; omega
  have ECB : cbcE f b iv (src.take p1) (q + 1) = cbcE f b iv src q ++ cbp f b iv src (q + 1) := by
    rw [cbcE_pre (src' := src) (q + 1) (by rw [← hp1q, List.take_take, Nat.min_self]), cbcE]
  have EC : Hid (ctsE f b iv src q tl = cbcE f b iv src q ++ (f (xorl (src.drop p1 ++ List.replicate (b - tl) 0) (cbp f b iv src (q + 1))) ++ (cbp f b iv src (q + 1)).take tl)) := Hid.mk (by rw [hp1q]; rfl)
  have hld : (src.drop p1).length = tl := by rw [List.length_drop]; omega
  have LL : (src.drop p1 ++ List.replicate (b - tl) 0).length = b := by rw [List.length_append, hld, List.length_replicate]; omega
  have hpart0 := hsv.part (i := p1) (j := n) (by omega) (Nat.le_refl _) (some ⟨sb, so + p1, none⟩) (fun _ => by simp [Addr.add, hp0])
  rw [List.take_of_length_le (by omega), show n - p1 = tl by omega] at hpart0
  have hpart1 := hsv.part (i := 0) (j := p1) (by omega) (by omega) (some ⟨sb, so, none⟩) (fun _ => by simp [Addr.add])
  rw [List.drop_zero, Nat.sub_zero, Nat.sub_zero] at hpart1
  have IB := fun gx (h : w.heap.size ≤ gx) => hiv.block (by omega) h
  have PB := fun gx (h : w.heap.size ≤ gx) => hpart1.block (by rw [List.length_take]; omega) h
  have FI := fun W => fit_c al ka kn kc (some ⟨ib, io, none⟩) (some ⟨g, 0, none⟩) (some ⟨sb, so, none⟩) b n ic dc sc W hbs hb0 hb1
  have hmk := run_make1 (P := Try.prog) Try.underlying27 inf5 rfl (b : Int) (b : Int) (by omega) (by omega) (by omega) (by omega)
  have K0 := (Keep.refl w).alloc (.cells #[.int .i64 al, .slice ka kn kc] 36)
  have B0 : Arr (w.alloc (.cells #[.int .i64 al, .slice ka kn kc] 36)) w.heap.size 36 [.int .i64 al, .slice ka kn kc] := Arr.new w 36 _
  have hgw := hw.lt
  have CB := fun W dcur (hkb : Bs W (.slice ka kn kc) key) hiv hpart hw (hnc : p1 ≤ dcur.length) hdc => cbcEncrypt_c al ka kn kc key f b (q + 1) p1 (.slice (some ⟨ib, io, none⟩) b ic) (.slice (some ⟨sb, so, none⟩) p1 sc) iv (src.take p1) dcur g dc sp W hC hb0 hb1 (by omega) hp1q hkl hkb hkg hiv hil hig hpart (by rw [List.length_take]; omega) hsg hw hnc hdc hdm
  rw [ECB] at CB
  have hfl := hC.1
  have HC := Hid.mk hC
  generalize hXX : cbcE f b iv src q = A at *
  generalize hSS : cbp f b iv src (q + 1) = S at *
  generalize hDD : src.drop p1 = D at *
  have y0 : ((n : Int) == (b : Int)) = false := by simp; omega
  have y1 : ¬ (n : Int) < b := by omega
  have e1 : IntKind.i64.wrap ((hd : Int) + b) = (p1 : Int) := by rw [IntKind.wrap_i64] <;> omega
  have q1 : (p1 : Int) ≤ n := by omega
  have q2 : (p1 : Int) ≤ sc := by omega
  have q3 : ¬ sc = p1 := by omega
  have q4 : n - p1 = tl := by omega
  have q5 : (hd : Int) ≤ p1 := by omega
  have q6 : (p1 : Int) ≤ dc := by omega
  have q7 : ¬ dc = hd := by omega
  have q8 : ¬ dc = p1 := by omega
  have q9 : p1 - hd = b := by omega
  have qa : (tl : Int) ≤ b := by omega
  have qb : (n : Int) ≤ sc := by omega
  have qc : (n : Int) ≤ dc := by omega
  have qd : (0 : Int) ≤ p1 := by omega
  unfold maxLen at hdm hsm him
  have HN := Hid.mk hn
  have HD := Hid.mk hhd
  have HP := Hid.mk hp1
  have HQ := Hid.mk hp1q
  clear hn hhd hp1 hp1q TN hbs ECB hs1 hsl hil
  go_enter Try.func19, Try.ntmps19
  go_wp2_with fail
  refine (FI _).mono ?_
  rintro e w1 ⟨rfl, k1⟩
  have K1 := K0.trans k1
  have B1 := B0.keep k1
  go_wp2_with fail
  refine (SP _).mono ?_
  rintro e w2 ⟨rfl, k2⟩
  have K2 := K1.trans k2
  have B2 := B1.keep k2
  have W3 := rep_winD w2 b
  have K3 := K2.alloc (.cells (rep b (.int .u8 0)) 5)
  have B3 := B2.keep ((Keep.refl _).alloc (.cells (rep b (.int .u8 0)) 5))
  have hz : w2.heap.size ≠ w.heap.size := by
    have := k1.size; have := k2.size
    have : (w.alloc (.cells #[.int .i64 al, .slice ka kn kc] 36)).heap.size = w.heap.size + 1 := World.size_alloc _ _
    omega
  have hz2 : w.heap.size ≤ w2.heap.size := K2.size
  obtain ⟨W4, hcp, win, grc⟩ := copy_in (P := Try.prog) (t := 27) Try.underlying27 siz5 W3 (hpart0.keep K3) (o := 0) (k := 0) (n := tl) (dLen := b) (dCap := b) (by simp) (by rw [hld]; omega) (by simp; omega)
  have hL : (List.replicate b (0 : UInt8)).take 0 ++ D.take tl ++ (List.replicate b (0 : UInt8)).drop (0 + tl) = D ++ List.replicate (b - tl) 0 := by
    rw [List.take_of_length_le (l := D) (by omega)]; simp
  rw [hL] at win
  clear hL W3 B2 B1 k1 k2 K1 K2 K0 B0
  obtain ⟨gB, hgB⟩ : ∃ gB, gB = w.heap.size := ⟨_, rfl⟩
  obtain ⟨gl, hgl⟩ : ∃ gl, gl = w2.heap.size := ⟨_, rfl⟩
  have n1 : g ≠ gB := by omega
  have n2 : g ≠ gl := by omega
  have n3 : gB ≠ gl := by omega
  have m1 : w.heap.size ≤ gl := by omega
  rw [← hgl] at win grc
  rw [← hgB] at B3
  have B4 := B3.kept grc n3
  have H4 : Win W4 g 5 [] cur sp := (hw.keep K3).kept grc n2
  have G4 : w.grownBy W4 (some g) := grown_new (keep_grown K3 _) grc m1
  have hkgl : (Value.slice ka kn kc).ownBlock ≠ some gl := hkb.block hkl m1
  have E4 := (hkb.keep K3).kept grc hkgl
  have I4 := (hiv.keep K3).kept grc (IB gl m1)
  have P4 := (hpart1.keep K3).kept grc (PB gl m1)
  have CBW := fun W (hk : Keep W4 W) => CB W cur (E4.keep hk) (I4.keep hk) (P4.keep hk) (H4.keep hk) (by omega) (by omega)
  have c0 := B4.cell 0
  have c1 := B4.cell 1
  simp only [List.getElem?_cons_zero, List.getElem?_cons_succ] at c0 c1
  generalize hLL : D ++ List.replicate (b - tl) 0 = L at *
  go_wp2_with fail
  rw [← hgB, ← hgl]
  clear hgB hgl
  go_cut [70] from 57 to 70 (fun _ wx => Win wx g 5 [] (A ++ S ++ cur.drop p1) sp ∧ W4.grownBy wx (some g))
  case first =>
    go_region_held3 (fun W => W.cell? ⟨gB, 0, none⟩ = some (.int .i64 al) ∧ W.cell? ⟨gB, 1, none⟩ = some (.slice ka kn kc))
      (first | assumption | exact ⟨c0, c1⟩ | exact ⟨cell_grown c0 Q1 (Ne.symm n1), cell_grown c1 Q1 (Ne.symm n1)⟩)
      ((go_at_call 42; refine (CBW _ (Keep.refl W4).drew).mono ?_; rintro x y ⟨rfl, hw5, g5⟩; have Q1 : W4.grownBy y (some g) := grown_trans (keep_grown (Keep.refl W4).drew _) g5))
    go_wp2_with fail
    go_meet
    case rel => exact ⟨hw5, Q1⟩
  case rest =>
    obtain ⟨hw5, gr5⟩ := hcut
    have K6 := (Keep.refl wc).alloc (.cells (rep b (.int .u8 0)) 5)
    have W6 := rep_winD wc b
    have H6 := hw5.keep K6
    have hz6 : w.heap.size ≤ wc.heap.size := Nat.le_trans G4.size gr5.size
    have hgl6 : gl < wc.heap.size := Nat.lt_of_lt_of_le win.lt gr5.size
    have hgB6 : gB < wc.heap.size := Nat.lt_of_lt_of_le B4.lt gr5.size
    have hlen6 : (A ++ S ++ cur.drop p1).length = n := by rw [List.length_append, List.length_append, LA, LS, List.length_drop]; omega
    have HB6 := (H6.bs (n := n) (c := dc) hlen6.symm (by omega) (by unfold maxLen; omega)).part (i := hd) (j := p1) (by omega) (by omega) (some ⟨g, hd, none⟩) (fun _ => by simp [Addr.add])
    rw [q9] at HB6
    have hcS : ((A ++ S ++ cur.drop p1).drop hd).take b = S := by
      rw [List.append_assoc, List.drop_left' LA, List.take_left' LS]
    rw [hcS] at HB6
    obtain ⟨W7, hcp7, win7, gr7⟩ := copy_in (P := Try.prog) (t := 27) Try.underlying27 siz5 W6 HB6 (o := 0) (k := 0) (n := b) (dLen := b) (dCap := b) (by simp) (by rw [LS]; simp) (by simp)
    have hL7 : (List.replicate b (0 : UInt8)).take 0 ++ S.take b ++ (List.replicate b (0 : UInt8)).drop (0 + b) = S := by
      rw [List.take_of_length_le (l := S) (by omega)]; simp
    rw [hL7] at win7
    obtain ⟨gs, hgs⟩ : ∃ gs, gs = wc.heap.size := ⟨_, rfl⟩
    rw [← hgs] at win7 gr7
    have n4 : g ≠ gs := by omega
    have n5 : gl ≠ gs := by omega
    have n6 : gB ≠ gs := by omega
    have m2 : w.heap.size ≤ gs := by omega
    have H7 := H6.kept gr7 n4
    have L7 : Win W7 gl 5 [] L [] := ((win.kept gr5 (Ne.symm n2)).keep K6).kept gr7 n5
    have B7 := ((B4.kept gr5 (Ne.symm n1)).keep K6).kept gr7 n6
    have G7 : w.grownBy W7 (some g) := grown_new (grown_keep (grown_trans G4 gr5) K6) gr7 m2
    have hkgs : (Value.slice ka kn kc).ownBlock ≠ some gs := hkb.block hkl m2
    clear hcS hL7 W6 HB6 H6 hlen6 c0 c1 CBW hcp grc K3 B3 win B4 H4 G4 E4 I4 P4 CB SP FI hpart0 hpart1 gr5 hw5 hz hz2 hw
    go_wp2_with fail
    rw [← hgs]
    clear hgs hcp7 gr7 K6
    go_loopw [15, 83] (fun _ iv wx => ∃ (i : Nat), i ≤ b ∧ iv = .int .i64 i ∧ Win wx gl 5 [] (xork L S i ++ L.drop i) [] ∧ W7.grownBy wx (some gl)) (fun _ i _ => b - (intOf i).toNat)
    case atStart => exact ⟨0, by omega, rfl, L7, grown_refl _ _⟩
    case round => as_aux_lemma =>
      obtain ⟨i, hi, rfl, hw', gr⟩ := hrel
      by_cases hib : i < b
      · have hib' : (i : Int) < b := by omega
        have i0 : (0 : Int) ≤ i := by omega
        have hl1 : i < (xork L S i ++ L.drop i).length := by rw [List.length_append, xork_length, List.length_drop, LL]; omega
        have e0 : (xork L S i ++ L.drop i)[i]'hl1 = L.getD i 0 := by
          have : (xork L S i ++ L.drop i)[i]? = some (L.getD i 0) := by
            rw [List.getElem?_append_right (by rw [xork_length]; exact Nat.le_refl _), xork_length, Nat.sub_self, List.getElem?_drop, Nat.add_zero, List.getD_eq_getElem?_getD, List.getElem?_eq_getElem (by omega)]
            rfl
          rw [List.getElem?_eq_getElem hl1] at this
          exact Option.some.inj this
        have c1 := hw'.cell (k := i) (o := i) hl1 (by simp)
        rw [e0] at c1
        have c2 := (win7.kept gr (Ne.symm n5)).cell (k := i) (o := i) (by omega) (by simp)
        have e2 : S[i]'(by omega) = S.getD i 0 := by rw [List.getD_eq_getElem?_getD, List.getElem?_eq_getElem (by omega)]; rfl
        rw [e2] at c2
        have EX : xork L S (i + 1) = xork L S i ++ [L.getD i 0 ^^^ S.getD i 0] := xork_succ _ _ _
        generalize L.getD i 0 = x at *
        generalize S.getD i 0 = y at *
        have xy := bits_xor8 x y
        have hset := hw'.set (k := i) hl1 (x ^^^ y) (o := i) (by simp)
        have hf := hw'.frozen i
        have hse : (xork L S i ++ L.drop i).set i (x ^^^ y) = xork L S (i + 1) ++ L.drop (i + 1) := by
          rw [EX, List.set_append_right _ _ (by rw [xork_length]; exact Nat.le_refl _), xork_length, Nat.sub_self, List.append_assoc]
          congr 1
          rw [← List.getElem_cons_drop (h := show i < L.length by omega)]
          rfl
        rw [hse] at hset
        have grs := grown_set gr i (.int .u8 (x ^^^ y).toNat)
        generalize x ^^^ y = z at *
        have HS := Hid.mk hset
        have GS := Hid.mk grs
        have HLL := Hid.mk LL
        have HLS := Hid.mk LS
        have HLA := Hid.mk LA
        clear hset grs hse hl1 EX hw' gr LL LS LA e0 e2 H7 L7 B7 G7 win7 hXX hSS hLL hDD
        go_wp2_with fail
        go_region
        go_wp2_with fail
        go_roundw
        case rel => exact ⟨i + 1, by omega, by go_num, HS.out.drew, grown_drew GS.out⟩
        case measure => simp [intOf]; omega
      · have hib' : ¬ (i : Int) < b := by omega
        have hib2 : i = b := by omega
        rw [hib2] at hw'
        have hX : xork L S b ++ L.drop b = xorl L S := by
          rw [List.drop_of_length_le (by omega), List.append_nil]
          unfold xork xorl
          rw [LL]
        rw [hX] at hw'
        have hXl : (xorl L S).length = b := by rw [xorl_length, LL]
        have EC2 : Hid (ctsE f b iv src q tl = A ++ (f (xorl L S) ++ S.take tl)) := Hid.mk EC.out
        generalize xorl L S = X at *
        have hXb : Bs wr (.slice (some ⟨gl, 0, none⟩) b b) X := hw'.bs hXl.symm (Nat.le_refl _) (by unfold maxLen; omega)
        have hkx : Bs wr (.slice ka kn kc) key := (hkb.kept G7 hkg).kept gr hkgl
        have CE : ∀ W, Keep wr W → Calls Try.prog 22 #[.agg #[.int .i64 al, .slice ka kn kc], .slice (some ⟨gl, 0, none⟩) b b] W fun x w' => ∃ va vc, x = .returned (.slice va b vc) ∧ Own W.heap.size 5 w' (.slice va b vc) ((f X).map cb) ∧ Keep W w' := by
          intro W hkW
          refine (HC.out.2 W _ X (hkx.keep hkW) (hXb.keep hkW) hXl).mono ?_
          rintro x w' ⟨v', rfl, o', q⟩
          obtain ⟨va, vc, hv, -, -, -⟩ := o'.bs.form
          rw [hfl X hXl] at hv
          subst hv
          exact ⟨va, vc, rfl, o', q⟩
        have hF := hfl X hXl
        generalize f X = F at *
        have H8 := H7.kept gr n2
        have B8 := B7.kept gr n3
        have S8 := win7.kept gr (Ne.symm n5)
        have G8 : w.grownBy wr (some g) := grown_new G7 gr m1
        have c0 := B8.cell 0
        have c1 := B8.cell 1
        simp only [List.getElem?_cons_zero, List.getElem?_cons_succ] at c0 c1
        have hF8 : (A ++ S ++ cur.drop p1).take hd ++ F.take b ++ (A ++ S ++ cur.drop p1).drop (hd + b) = A ++ (F ++ cur.drop p1) := by
          rw [List.append_assoc A, List.take_left' LA, List.take_of_length_le (l := F) (by omega), ← List.append_assoc A, List.drop_left' (by rw [List.length_append, LA, LS]), List.append_assoc]
        have hl8 : hd + b ≤ (A ++ S ++ cur.drop p1).length := by rw [List.length_append, List.length_append, LA, LS]; omega
        clear hX hib hib2 hi H7 B7 win7 L7 G7 gr hXb hkx hXX hSS hLL hDD
        go_wp2_with fail
        go_cut [106] from 97 to 106 (fun _ wx => Win wx g 5 [] (A ++ (F ++ cur.drop p1)) sp ∧ ∃ W0, Keep wr W0 ∧ W0.grownBy wx (some g))
        case first => as_aux_lemma =>
          go_region_held3 (fun W => W.cell? ⟨gB, 0, none⟩ = some (.int .i64 al) ∧ W.cell? ⟨gB, 1, none⟩ = some (.slice ka kn kc))
            (first | assumption | exact ⟨c0, c1⟩ | exact ⟨Q1.cell c0, Q1.cell c1⟩ | exact ⟨cell_grown (Q1.cell c0) gr9 (Ne.symm n1), cell_grown (Q1.cell c1) gr9 (Ne.symm n1)⟩)
            ((go_at_call 22; refine (CE _ (Keep.refl wr).drew).mono ?_; rintro x y ⟨va, vc, rfl, o', qq⟩; have Q1 : Keep wr y := (Keep.refl wr).drew.trans qq; obtain ⟨W9, hcp9, win9, gr9⟩ := copy_in (P := Try.prog) (t := 27) Try.underlying27 siz5 (H8.keep Q1) o'.bs (o := hd) (k := hd) (n := b) (dLen := b) (dCap := dc - hd) (by simp) (by rw [hF]; simp) hl8))
          rw [hF8] at win9
          clear hcp9
          go_wp2_with fail
          go_meet
          case rel => exact ⟨win9, y, Q1, gr9⟩
        case rest => as_aux_lemma =>
          obtain ⟨win9, W0, k9, gr9⟩ := hcut
          have S9 := (S8.keep k9).kept gr9 (Ne.symm n4)
          have X9 := (hw'.keep k9).kept gr9 (Ne.symm n2)
          have G9 := grown_trans (grown_keep G8 k9) gr9
          have SB := (S9.bs (n := b) (c := b) LS.symm (Nat.le_refl _) (by unfold maxLen; omega)).part (i := 0) (j := tl) (by omega) ht (some ⟨gs, 0, none⟩) (fun _ => by simp [Addr.add])
          rw [Nat.sub_zero, Nat.sub_zero, List.drop_zero] at SB
          have lST : (S.take tl).length = tl := by rw [List.length_take]; omega
          have hl9 : (A ++ (F ++ cur.drop p1)).length = p1 + tl := by rw [List.length_append, List.length_append, LA, hF, List.length_drop]; omega
          obtain ⟨Wd, hcpd, wind, grd⟩ := copy_in (P := Try.prog) (t := 27) Try.underlying27 siz5 win9.drew SB.drew (o := p1) (k := p1) (n := tl) (dLen := tl) (dCap := dc - p1) (by simp) (by rw [lST]; simp) (by omega)
          have hFd : (A ++ (F ++ cur.drop p1)).take p1 ++ (S.take tl).take tl ++ (A ++ (F ++ cur.drop p1)).drop (p1 + tl) = A ++ (F ++ S.take tl) := by
            have lAF : (A ++ F).length = p1 := by rw [List.length_append, LA, hF]; omega
            rw [List.drop_of_length_le (l := A ++ (F ++ cur.drop p1)) (by omega), List.append_nil, ← List.append_assoc A F, List.take_left' lAF, List.take_of_length_le (l := S.take tl) (by omega), List.append_assoc]
          rw [hFd, ← EC2.out] at wind
          have Xd : Win Wd gl 5 [] X [] := X9.drew.kept grd (Ne.symm n2)
          have Gd : w.grownBy Wd (some g) := grown_trans (grown_drew G9) grd
          have WI := wipe_c gl b b X [] [] Wd hXl.symm (Nat.le_refl _) (by unfold maxLen; omega) Xd
          have HFd := Hid.mk hFd
          have HWD := Hid.mk wind
          have HGD := Hid.mk Gd
          clear hFd wind Gd S9 X9 G9 SB win9 H8 B8 S8 G8 CE hl8 hF8 hl9 lST c0 c1
          go_wp2_with fail
          go_cut [115] from 107 to 115 (fun _ wx => wx = Wd)
          case first => as_aux_lemma =>
            go_region
            go_wp2_with fail
            go_meet
            case rel => rfl
          case rest => as_aux_lemma =>
            subst hcut
            go_wp2_with fail
            refine WI.mono ?_
            rintro e y ⟨rfl, w9, g9⟩
            go_wp2
            go_ret
            exact ⟨rfl, HWD.out.kept g9 n2, grown_new HGD.out g9 m1⟩
end Go.Proofs.Qxb6500769a
