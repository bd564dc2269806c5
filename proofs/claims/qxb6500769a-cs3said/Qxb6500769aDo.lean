/- modes: cbcDecrypt. -/
import Derived.Test.Qxb6500769aDn
namespace Go.Proofs.Qxb6500769a
open Go.RowKit Go.Qm
set_option linter.unusedVariables false
set_option linter.unusedSimpArgs false
attribute [local go_sem ↓] Go.wp_at_zero Go.wp_at_succ

/-- What the k-th block was chained with. -/
def cdp (b : Nat) (iv src : List UInt8) : Nat → List UInt8
  | 0 => iv
  | k + 1 => (src.drop (b * k)).take b
def cbcD (f : List UInt8 → List UInt8) (b : Nat) (iv src : List UInt8) : Nat → List UInt8
  | 0 => []
  | k + 1 => cbcD f b iv src k ++ xorl (f ((src.drop (b * k)).take b)) (cdp b iv src k)
theorem blk_length {b m k : Nat} {src : List UInt8} (hs : b * m ≤ src.length) (hk : k < m) : ((src.drop (b * k)).take b).length = b := by
  have h1 : b * (k + 1) ≤ b * m := Nat.mul_le_mul_left b hk
  rw [Nat.mul_add] at h1
  rw [List.length_take, List.length_drop]; omega
theorem cdp_length {b : Nat} {iv src : List UInt8} (hi : iv.length = b) {m : Nat} (hs : b * m ≤ src.length) : ∀ k, k ≤ m → (cdp b iv src k).length = b
  | 0, _ => hi
  | k + 1, h => blk_length hs h
theorem cbcD_length {f : List UInt8 → List UInt8} {b : Nat} (hf : ∀ l, l.length = b → (f l).length = b) {iv src : List UInt8} (hi : iv.length = b) {m : Nat} (hs : b * m ≤ src.length) : ∀ k, k ≤ m → (cbcD f b iv src k).length = b * k
  | 0, _ => rfl
  | k + 1, h => by rw [cbcD, List.length_append, cbcD_length hf hi hs k (by omega), xorl_length, hf _ (blk_length hs h), Nat.mul_add]; omega
set_option maxRecDepth 3000 in
set_option maxHeartbeats 4000000 in
theorem cbcDecrypt_c (al : Int) (ka : Option Addr) (kn kc : Nat) (key : List UInt8) (f : List UInt8 → List UInt8) (b m n : Nat) (ivv sv : Value) (iv src cur : List UInt8) (g dc : Nat) (sp : List Value) (w : World)
    (hC : Cip 46 b al (.slice ka kn kc) key f) (hb0 : b ≠ 0) (hb1 : b ≤ 16) (hm : m ≤ 100000) (hn : n = b * m)
    (hkl : key.length ≠ 0) (hkb : Bs w (.slice ka kn kc) key) (hkg : (Value.slice ka kn kc).ownBlock ≠ some g)
    (hiv : Bs w ivv iv) (hil : iv.length = b) (hig : ivv.ownBlock ≠ some g)
    (hsv : Bs w sv src) (hsl : src.length = n) (hsg : sv.ownBlock ≠ some g)
    (hw : Win w g 5 [] cur sp) (hnc : n ≤ cur.length) (hdc : cur.length ≤ dc) (hdm : dc ≤ maxLen) :
    Calls Try.prog 45 #[.agg #[.int .i64 al, .slice ka kn kc], .int .i64 b, ivv, .slice (some ⟨g, 0, none⟩) n dc, sv] w fun e w' =>
      e = .returned (.tuple #[]) ∧ Win w' g 5 [] (cbcD f b iv src m ++ cur.drop n) sp ∧ w.grownBy w' (some g) := by
  have hmk := run_make1 (P := Try.prog) Try.underlying27 inf5 rfl (b : Int) (b : Int) (by omega) (by omega) (by omega) (by omega)
  unfold maxLen at hdm
  obtain ⟨sa, sc, rfl, hsc, hsm, hsca⟩ := hsv.form
  unfold maxLen at hsm
  have K0 := (Keep.refl w).alloc (.cells #[.int .i64 al, .slice ka kn kc] 36)
  have B0 := Arr.new w 36 [.int .i64 al, .slice ka kn kc]
  rw [hsl] at hsc hsv hsg ⊢
  have HN := Hid.mk hn
  have hgw := hw.lt
  clear hn
  have hdn : n ≤ dc := by omega
  have W1 := rep_winD (w.alloc (.cells #[.int .i64 al, .slice ka kn kc] 36)) b
  have K1 := K0.alloc (.cells (rep b (.int .u8 0)) 5)
  have B1 : Arr ((w.alloc (.cells #[.int .i64 al, .slice ka kn kc] 36)).alloc (.cells (rep b (.int .u8 0)) 5)) w.heap.size 36 [.int .i64 al, .slice ka kn kc] := B0.keep ((Keep.refl _).alloc _)
  have W2 := rep_winD ((w.alloc (.cells #[.int .i64 al, .slice ka kn kc] 36)).alloc (.cells (rep b (.int .u8 0)) 5)) b
  have K2 := K1.alloc (.cells (rep b (.int .u8 0)) 5)
  have B2 := B1.keep ((Keep.refl _).alloc (.cells (rep b (.int .u8 0)) 5))
  have W1' := W1.keep ((Keep.refl _).alloc (.cells (rep b (.int .u8 0)) 5))
  have hs1 : (w.alloc (.cells #[.int .i64 al, .slice ka kn kc] 36)).heap.size = w.heap.size + 1 := World.size_alloc _ _
  have hs2 : ((w.alloc (.cells #[.int .i64 al, .slice ka kn kc] 36)).alloc (.cells (rep b (.int .u8 0)) 5)).heap.size = w.heap.size + 1 + 1 := by rw [World.size_alloc, hs1]
  rw [hs1] at W1'
  rw [hs2] at W2
  obtain ⟨Wc, hcp, win, grc⟩ := copy_in (P := Try.prog) (t := 27) Try.underlying27 siz5 W1' (hiv.keep K2) (o := 0) (k := 0) (n := b) (dLen := b) (dCap := b) (by simp) (by rw [hil]; simp) (by simp)
  go_enter Try.func45, Try.ntmps45
  go_wp2_with fail
  have hcont0 : (List.replicate b (0 : UInt8)).take 0 ++ iv.take b ++ (List.replicate b (0 : UInt8)).drop (0 + b) = iv := by
    rw [List.take_of_length_le (l := iv) (by omega), List.drop_of_length_le (by simp)]; simp
  rw [hcont0] at win
  have Z2 := W2.kept grc (by omega)
  have ZB := B2.kept grc (by omega)
  have ZG : w.grownBy Wc (some g) := grown_new (keep_grown K2 _) grc (by omega)
  have ZW : Win Wc g 5 [] cur sp := (hw.keep K2).kept grc (by omega)
  obtain ⟨gB, hgB⟩ : ∃ gB, gB = w.heap.size := ⟨_, rfl⟩
  obtain ⟨g1, hg1⟩ : ∃ g1, g1 = w.heap.size + 1 := ⟨_, rfl⟩
  obtain ⟨g2, hg2⟩ : ∃ g2, g2 = w.heap.size + 1 + 1 := ⟨_, rfl⟩
  rw [← hg2] at Z2
  rw [← hg1] at win
  rw [← hgB] at ZB
  rw [← hg2, ← hg1, ← hgB]
  have n2 : g ≠ gB := by omega
  have m1 : g1 ≠ g2 := by omega
  have m2 : w.heap.size ≤ g1 := by omega
  have m3 : w.heap.size ≤ g2 := by omega
  have m4 : g1 ≠ gB := by omega
  have m5 : g2 ≠ gB := by omega
  have HGB : Hid (w.heap.size ≤ gB) := Hid.mk (by omega)
  clear hgB hg1 hg2 hs1 hs2 K0 K1 K2 B0 B1 B2 W1 W1' W2 hmk hcp grc hcont0 hsca
  go_loopw [10, 11, 12, 13, 14] (fun bv tv av _ _ wr => ∃ (k p gp gt : Nat) (tl : List UInt8), p = b * k ∧ k ≤ m ∧ av = .int .i64 p ∧ bv = .slice (some ⟨gp, 0, none⟩) b b ∧ tv = .slice (some ⟨gt, 0, none⟩) b b ∧ gp ≠ gt ∧ w.heap.size ≤ gp ∧ w.heap.size ≤ gt ∧ gp ≠ gB ∧ gt ≠ gB ∧ Win wr gp 5 [] (cdp b iv src k) [] ∧ Win wr gt 5 [] tl [] ∧ tl.length = b ∧ Win wr g 5 [] (cbcD f b iv src k ++ cur.drop p) sp ∧ Arr wr gB 36 [.int .i64 al, .slice ka kn kc] ∧ w.grownBy wr (some g)) (fun _ _ a _ _ _ => n - (intOf a).toNat)
  case atStart => exact ⟨0, 0, g1, g2, _, rfl, by omega, rfl, rfl, rfl, m1, m2, m3, m4, m5, win, Z2, by simp, ZW, ZB, ZG⟩
  case round =>
    clear win Z2 ZW ZB ZG m1 m2 m3 m4 m5
    obtain ⟨k, p, gp, gt, tl, hp, hkm, rfl, rfl, rfl, m1, m2, m3, m4, m5, hP, hT, htl, hg, hB, hgr⟩ := hrel
    by_cases hlt : p < n
    · have hlt' : (p : Int) < n := by omega
      have hkm' : k < m := by
        rw [hp, HN.out] at hlt
        exact Nat.lt_of_mul_lt_mul_left hlt
      have hpb : p + b ≤ n := by
        rw [hp, HN.out, ← Nat.mul_succ]
        exact Nat.mul_le_mul_left b hkm'
      have n1 : g ≠ gp := by omega
      have n3 : g ≠ gt := by omega
      have hsr : Bs wr (.slice sa n sc) src := hsv.kept hgr hsg
      have hkr := hkb.kept hgr hkg
      have hkt : (Value.slice ka kn kc).ownBlock ≠ some gt := hkb.block hkl m3
      have hmn : b * m ≤ src.length := by rw [hsl, HN.out]; exact Nat.le_refl _
      have LP : (cdp b iv src k).length = b := cdp_length hil hmn k hkm
      have LE : (cbcD f b iv src k).length = p := by rw [hp]; exact cbcD_length hC.1 hil hmn k hkm
      have LS : ((src.drop (b * k)).take b).length = b := blk_length hmn hkm'
      have EP : Hid (cdp b iv src (k + 1) = (src.drop (b * k)).take b) := Hid.mk rfl
      have EE : Hid (cbcD f b iv src (k + 1) = cbcD f b iv src k ++ xorl (f ((src.drop (b * k)).take b)) (cdp b iv src k)) := Hid.mk rfl
      rw [← hp] at EP EE LS
      obtain ⟨sb, so, sc', hse, -, -⟩ := bs_some hsv (by omega)
      simp only [Value.slice.injEq] at hse
      obtain ⟨rfl, -, rfl⟩ := hse
      have hpart := hsr.part (i := p) (j := p + b) (by omega) hpb (some ⟨sb, so + p, none⟩) (fun _ => by simp [Addr.add])
      rw [show p + b - p = b by omega] at hpart
      generalize cdp b iv src k = pv at *
      generalize cbcD f b iv src k = ce at *
      generalize (src.drop p).take b = sl at *
      have hfl : (f sl).length = b := hC.1 sl LS
      obtain ⟨W1, hcp, win, grc⟩ := copy_in (P := Try.prog) (t := 27) Try.underlying27 siz5 hT hpart (o := 0) (k := 0) (n := b) (dLen := b) (dCap := b) (by simp) (by rw [LS]; simp) (by omega)
      have hcont : tl.take 0 ++ sl.take b ++ tl.drop (0 + b) = sl := by
        rw [List.take_of_length_le (l := sl) (by omega), List.drop_of_length_le (by omega)]; simp
      rw [hcont] at win
      have P1 := hP.kept grc m1
      have B1 := hB.kept grc (Ne.symm m5)
      have G1 := hg.kept grc n3
      have R1 := grown_new hgr grc m3
      have CE := fun W (hk : Keep W1 W) => hC.2 W _ sl ((hkr.kept grc hkt).keep hk) ((win.bs (n := b) (c := b) LS.symm (Nat.le_refl _) (by unfold maxLen; omega)).keep hk) LS
      obtain ⟨p1, hp1⟩ : ∃ p1, p1 = p + b := ⟨_, rfl⟩
      have e1 : IntKind.i64.wrap ((p : Int) + b) = (p1 : Int) := by rw [IntKind.wrap_i64] <;> omega
      have q1 : (p : Int) ≤ p1 := by omega
      have q2 : (p1 : Int) ≤ n := by omega
      have q3 : (p1 : Int) ≤ sc := by omega
      have q4 : ¬ sc = p := by omega
      have q5 : p1 - p = b := by omega
      have r0 := B1.cell 0
      have r1 := B1.cell 1
      simp only [List.getElem?_cons_zero, List.getElem?_cons_succ] at r0 r1
      have HP := Hid.mk hp
      have HP1 := Hid.mk hp1
      have HTL := Hid.mk htl
      have HLP := Hid.mk LP
      have HLE := Hid.mk LE
      have HSL := Hid.mk hsl
      have HLS := Hid.mk LS
      have HFL := Hid.mk hfl
      clear hp hp1 htl LP LE LS hfl hcont hP hT hB hg hsr hkr hpart
      go_wp2_with fail
      refine (CE _ (Keep.refl _)).mono ?_
      rintro e y ⟨v9, rfl, o9, k9⟩
      obtain ⟨vb, vo, vc, hv9, hvc, hvm⟩ := bs_some o9.bs (by rw [HFL.out]; exact hb0)
      rw [HFL.out] at hv9 hvc
      subst hv9
      unfold maxLen at hvm
      have hvg : (Value.slice (some ⟨vb, vo, none⟩) b vc).ownBlock ≠ some g := by
        intro e
        have := (o9.lt g e).1
        have := G1.lt
        omega
      have P9 := P1.keep k9
      have B9 := B1.keep k9
      have G9 := G1.keep k9
      have T9 := win.keep k9
      have R9 := grown_keep R1 k9
      have V9 := o9.bs
      generalize f sl = pl at *
      clear CE o9 P1 B1 G1 R1 r0 r1 hcp win grc
      go_wp2_with fail
      go_loopw [14, 42] (fun _ iv wx => ∃ (i : Nat), i ≤ b ∧ iv = .int .i64 i ∧ Win wx g 5 [] (ce ++ (xork pl pv i ++ cur.drop (p + i))) sp ∧ y.grownBy wx (some g)) (fun _ i _ => b - (intOf i).toNat)
      case atStart => exact ⟨0, by omega, rfl, G9, grown_refl _ _⟩
      case round => as_aux_lemma =>
        obtain ⟨i, hi, rfl, hw', gr⟩ := hrel
        by_cases hib : i < b
        · have hib' : (i : Int) < b := by omega
          obtain ⟨j, hj⟩ : ∃ j, j = p + i := ⟨_, rfl⟩
          have c1 := bs_cell (V9.kept gr hvg) (i := i) (by rw [HFL.out]; exact hib)
          have c2 := bs_cell ((P9.kept gr (Ne.symm n1)).bs (n := b) (c := b) HLP.out.symm (Nat.le_refl _) (by unfold maxLen; omega)) (i := i) (by rw [HLP.out]; exact hib)
          rw [Nat.zero_add] at c2
          have EX : Hid (xork pl pv (i + 1) = xork pl pv i ++ [pl.getD i 0 ^^^ pv.getD i 0]) := Hid.mk (xork_succ _ _ _)
          have e2 : IntKind.i64.wrap ((p : Int) + i) = (j : Int) := by rw [IntKind.wrap_i64] <;> omega
          have jn : (j : Int) < n := by omega
          have j0 : (0 : Int) ≤ j := by omega
          have i0 : (0 : Int) ≤ i := by omega
          generalize pl.getD i 0 = x at *
          generalize pv.getD i 0 = z' at *
          have xy := bits_xor8 x z'
          have hl1 : j < (ce ++ (xork pl pv i ++ cur.drop (p + i))).length := by rw [List.length_append, List.length_append, xork_length, List.length_drop, HLE.out]; omega
          have hset := hw'.set (k := j) hl1 (x ^^^ z') (o := j) (by simp)
          have hf := hw'.frozen j
          have hc0 := hw'.cell (k := j) (o := j) hl1 (by simp)
          obtain ⟨cv, hc⟩ : ∃ cv : Value, wr.cell? ⟨g, j, none⟩ = some cv := ⟨_, hc0⟩
          have hse : (ce ++ (xork pl pv i ++ cur.drop (p + i))).set j (x ^^^ z') = ce ++ (xork pl pv (i + 1) ++ cur.drop (p + (i + 1))) := by
            rw [EX.out, List.set_append_right _ _ (by rw [HLE.out]; omega), HLE.out, show j - p = i by omega, List.set_append_right _ _ (by rw [xork_length]; exact Nat.le_refl _), xork_length, Nat.sub_self, List.append_assoc (xork pl pv i)]
            congr 2
            rw [← List.getElem_cons_drop (h := show p + i < cur.length by omega)]
            rfl
          rw [hse] at hset
          have grs := grown_set gr j (.int .u8 (x ^^^ z').toNat)
          generalize x ^^^ z' = z at *
          have HS := Hid.mk hset
          have GS := Hid.mk grs
          clear hset grs hse hc0 hl1 EX hj hw' gr B9 G9 P9 T9 V9
          go_wp2_with fail
          go_region
          go_wp2_with fail
          exact ⟨⟨i + 1, by omega, by go_num, HS.out.drew, grown_drew GS.out⟩, by simp [intOf]; omega⟩
        · have hib' : ¬ (i : Int) < b := by omega
          have hib2 : b = i := by omega
          subst hib2
          have hX : xork pl pv b = xorl pl pv := by unfold xorl xork; rw [HFL.out]
          rw [hX, ← List.append_assoc, ← EE.out] at hw'
          have Z1 := P9.kept gr (Ne.symm n1)
          have Z2 := T9.kept gr (Ne.symm n3)
          have Z3 := B9.kept gr (Ne.symm n2)
          have Z4 := grown_trans R9 gr
          rw [← EP.out] at Z2
          clear hX P9 B9 G9 T9 V9 gr R9
          go_wp2_with fail
          go_roundw
          case rel => exact ⟨k + 1, p + b, gt, gp, pv, by rw [HP.out]; rfl, by omega, by have := HP1.out; go_num, rfl, rfl, Ne.symm m1, m3, m2, m5, m4, Z2, Z1, HLP.out, hw', Z3, Z4⟩
          case measure => simp [intOf]; have := HP1.out; omega
    · have hlt' : ¬ (p : Int) < n := by omega
      have hpn : p = n := by
        have : b * k ≤ b * m := Nat.mul_le_mul_left b hkm
        have := HN.out
        omega
      have hkm2 : k = m := by
        rw [hp, HN.out] at hpn
        exact Nat.eq_of_mul_eq_mul_left (by omega) hpn
      subst hkm2
      rw [hpn] at hg
      clear hp hpn
      go_wp2
      go_end0
      exact ⟨rfl, hg, hgr⟩
end Go.Proofs.Qxb6500769a
