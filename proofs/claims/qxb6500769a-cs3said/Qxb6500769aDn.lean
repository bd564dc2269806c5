/- modes: cbcEncrypt. -/
import Derived.Test.Qxb6500769aDm
import Derived.Test.Qxb6500769aEd
namespace Go.Proofs.Qxb6500769a
open Go.RowKit Go.Qm
set_option linter.unusedVariables false
set_option linter.unusedSimpArgs false
attribute [local go_sem ↓] Go.wp_at_zero Go.wp_at_succ

/-- The k-th link of the chain. -/
def cbp (f : List UInt8 → List UInt8) (b : Nat) (iv src : List UInt8) : Nat → List UInt8
  | 0 => iv
  | k + 1 => f (xorl ((src.drop (b * k)).take b) (cbp f b iv src k))
def cbcE (f : List UInt8 → List UInt8) (b : Nat) (iv src : List UInt8) : Nat → List UInt8
  | 0 => []
  | k + 1 => cbcE f b iv src k ++ cbp f b iv src (k + 1)
theorem cbp_length {f : List UInt8 → List UInt8} {b : Nat} (hf : ∀ l, l.length = b → (f l).length = b) {iv src : List UInt8} (hi : iv.length = b) {m : Nat} (hs : b * m ≤ src.length) : ∀ k, k ≤ m → (cbp f b iv src k).length = b
  | 0, _ => hi
  | k + 1, h => by
    have h1 : b * (k + 1) ≤ b * m := Nat.mul_le_mul_left b h
    rw [Nat.mul_add] at h1
    exact hf _ (by rw [xorl_length, List.length_take, List.length_drop]; omega)
theorem cbcE_length {f : List UInt8 → List UInt8} {b : Nat} (hf : ∀ l, l.length = b → (f l).length = b) {iv src : List UInt8} (hi : iv.length = b) {m : Nat} (hs : b * m ≤ src.length) : ∀ k, k ≤ m → (cbcE f b iv src k).length = b * k
  | 0, _ => rfl
  | k + 1, h => by rw [cbcE, List.length_append, cbcE_length hf hi hs k (by omega), cbp_length hf hi hs (k + 1) h, Nat.mul_add]; omega
theorem rep_winD (w : World) (n : Nat) : Win (w.alloc (.cells (rep n (.int .u8 0)) 5)) w.heap.size 5 [] (List.replicate n 0) [] := by
  have := heap_alloc_new w (.cells (rep n (.int .u8 0)) 5)
  rw [rep_cb] at this
  rw [rep_cb]
  unfold Win
  rw [this]; simp
theorem grown_new {a b c : World} {g x : Nat} (h : a.grownBy b (some g)) (k : b.grownBy c (some x)) (hx : a.heap.size ≤ x) : a.grownBy c (some g) :=
  ⟨k.os.trans h.os, k.tape.trans h.tape, k.output.trans h.output, Nat.le_trans h.size k.size, fun q hq hne => (k.block q (Nat.lt_of_lt_of_le hq h.size) (by intro e; cases e; omega)).trans (h.block q hq hne)⟩
theorem bs_cell {w : World} {n c : Nat} {l : List UInt8} {b o : Nat} (h : Bs w (.slice (some ⟨b, o, none⟩) n c) l) {i : Nat} (hi : i < l.length) : w.cell? ⟨b, o + i, none⟩ = some (.int .u8 (l.getD i 0).toNat) := by
  obtain ⟨a', c', e, -, -, h3⟩ := h.form
  obtain ⟨b', o', e', h'⟩ := h3 i hi
  simp only [Value.slice.injEq] at e
  rw [← e.1] at e'
  simp at e'
  obtain ⟨rfl, rfl⟩ := e'
  rw [h', List.getD_eq_getElem?_getD, List.getElem?_eq_getElem hi]; rfl
theorem bs_some {w : World} {v : Value} {l : List UInt8} (h : Bs w v l) (hl : l.length ≠ 0) : ∃ b o c, v = .slice (some ⟨b, o, none⟩) l.length c ∧ l.length ≤ c ∧ c ≤ maxLen := by
  obtain ⟨a', c', e, h1, h2, h3⟩ := h.form
  obtain ⟨b', o', rfl, h'⟩ := h3 0 (by omega)
  exact ⟨b', o', c', e, h1, h2⟩
set_option maxRecDepth 3000 in
set_option maxHeartbeats 4000000 in
theorem cbcEncrypt_c (al : Int) (ka : Option Addr) (kn kc : Nat) (key : List UInt8) (f : List UInt8 → List UInt8) (b m n : Nat) (ivv sv : Value) (iv src cur : List UInt8) (g dc : Nat) (sp : List Value) (w : World)
    (hC : Cip 22 b al (.slice ka kn kc) key f) (hb0 : b ≠ 0) (hb1 : b ≤ 16) (hm : m ≤ 100000) (hn : n = b * m)
    (hkl : key.length ≠ 0) (hkb : Bs w (.slice ka kn kc) key) (hkg : (Value.slice ka kn kc).ownBlock ≠ some g)
    (hiv : Bs w ivv iv) (hil : iv.length = b) (hig : ivv.ownBlock ≠ some g)
    (hsv : Bs w sv src) (hsl : src.length = n) (hsg : sv.ownBlock ≠ some g)
    (hw : Win w g 5 [] cur sp) (hnc : n ≤ cur.length) (hdc : cur.length ≤ dc) (hdm : dc ≤ maxLen) :
    Calls Try.prog 42 #[.agg #[.int .i64 al, .slice ka kn kc], .int .i64 b, ivv, .slice (some ⟨g, 0, none⟩) n dc, sv] w fun e w' =>
      e = .returned (.tuple #[]) ∧ Win w' g 5 [] (cbcE f b iv src m ++ cur.drop n) sp ∧ w.grownBy w' (some g) := by
  have hmk := run_make1 (P := Try.prog) Try.underlying27 inf5 rfl (b : Int) (b : Int) (by omega) (by omega) (by omega) (by omega)
  unfold maxLen at hdm
  obtain ⟨sa, sc, rfl, hsc, hsm, hsca⟩ := hsv.form
  unfold maxLen at hsm
  have K0 := (Keep.refl w).alloc (.cells #[.int .i64 al, .slice ka kn kc] 36)
  have B0 := Arr.new w 36 [.int .i64 al, .slice ka kn kc]
  rw [hsl] at hsc hsv hsg ⊢
  have HN := Hid.mk hn
  have hgw := hw.lt
  clear hn
  have hdn : n ≤ dc := by omega
  go_enter Try.func42, Try.ntmps42
  go_wp2_with fail
  have W1 := rep_winD (w.alloc (.cells #[.int .i64 al, .slice ka kn kc] 36)) b
  have K2 := K0.alloc (.cells (rep b (.int .u8 0)) 5)
  have B2 : Arr ((w.alloc (.cells #[.int .i64 al, .slice ka kn kc] 36)).alloc (.cells (rep b (.int .u8 0)) 5)) w.heap.size 36 [.int .i64 al, .slice ka kn kc] := B0.keep ((Keep.refl _).alloc _)
  have hsz1 : (w.alloc (.cells #[.int .i64 al, .slice ka kn kc] 36)).heap.size = w.heap.size + 1 := World.size_alloc _ _
  rw [hsz1] at W1
  generalize (w.alloc (.cells #[.int .i64 al, .slice ka kn kc] 36)).alloc (.cells (rep b (.int .u8 0)) 5) = w2 at *
  obtain ⟨gB, hgB⟩ : ∃ gB, gB = w.heap.size := ⟨_, rfl⟩
  obtain ⟨gx, hgx⟩ : ∃ gx, gx = w.heap.size + 1 := ⟨_, rfl⟩
  rw [← hgx] at W1
  rw [← hgB] at B2
  rw [← hgx, ← hgB]
  have n1 : g ≠ gx := by omega
  have n2 : g ≠ gB := by omega
  have n3 : gB ≠ gx := by omega
  have HGX : Hid (w.heap.size ≤ gx) := Hid.mk (by omega)
  have HGB : Hid (w.heap.size ≤ gB) := Hid.mk (by omega)
  have G2 : w.grownBy w2 (some g) := keep_grown K2 _
  have W2 : Win w2 g 5 [] cur sp := hw.keep K2
  have I2 := hiv.keep K2
  have hkgx : (Value.slice ka kn kc).ownBlock ≠ some gx := hkb.block hkl HGX.out
  have hix : ivv.ownBlock ≠ some gx := hiv.block (by omega) HGX.out
  clear hgB hgx hsz1 K0 K2 B0 hmk
  go_loopw [11, 12, 13] (fun bv av _ wr => ∃ (k p : Nat) (xl : List UInt8), p = b * k ∧ k ≤ m ∧ av = .int .i64 p ∧ Bs wr bv (cbp f b iv src k) ∧ bv.ownBlock ≠ some gx ∧ Win wr gx 5 [] xl [] ∧ xl.length = b ∧ Win wr g 5 [] (cbcE f b iv src k ++ cur.drop p) sp ∧ Arr wr gB 36 [.int .i64 al, .slice ka kn kc] ∧ w.grownBy wr (some g)) (fun _ a _ _ => n - (intOf a).toNat)
  case atStart => exact ⟨0, 0, _, rfl, by omega, rfl, I2, hix, W1, by simp, W2, B2, G2⟩
  case round =>
    clear W1 B2 G2 W2 I2
    obtain ⟨k, p, xl, hp, hkm, rfl, hbv, hbx, hx, hxl, hg, hB, hgr⟩ := hrel
    by_cases hlt : p < n
    · have hlt' : (p : Int) < n := by omega
      have hkm' : k < m := by
        rw [hp, HN.out] at hlt
        exact Nat.lt_of_mul_lt_mul_left hlt
      have hpb : p + b ≤ n := by
        rw [hp, HN.out, ← Nat.mul_succ]
        exact Nat.mul_le_mul_left b hkm'
      have hsr : Bs wr (.slice sa n sc) src := hsv.kept hgr hsg
      have hkr := hkb.kept hgr hkg
      have hsx : (Value.slice sa n sc).ownBlock ≠ some gx := hsv.block (by omega) HGX.out
      have hsB : (Value.slice sa n sc).ownBlock ≠ some gB := hsv.block (by omega) HGB.out
      have LP : (cbp f b iv src k).length = b := cbp_length hC.1 hil (m := m) (by rw [hsl, HN.out]; exact Nat.le_refl _) k hkm
      have LE : (cbcE f b iv src k).length = p := by rw [hp]; exact cbcE_length hC.1 hil (m := m) (by rw [hsl, HN.out]; exact Nat.le_refl _) k hkm
      have EP : Hid (cbp f b iv src (k + 1) = f (xorl ((src.drop (b * k)).take b) (cbp f b iv src k))) := Hid.mk rfl
      have EE : Hid (cbcE f b iv src (k + 1) = cbcE f b iv src k ++ cbp f b iv src (k + 1)) := Hid.mk rfl
      rw [← hp] at EP
      obtain ⟨pb, po, pc, hbve, hpc, hpm⟩ := bs_some hbv (by omega)
      obtain ⟨sb, so, sc', hse, -, -⟩ := bs_some hsv (by omega)
      simp only [Value.slice.injEq] at hse
      obtain ⟨rfl, -, rfl⟩ := hse
      rw [LP] at hbve hpc
      subst hbve
      unfold maxLen at hpm
      generalize cbp f b iv src k = pv at *
      obtain ⟨nx, hnx⟩ : ∃ nx, nx = cbp f b iv src (k + 1) := ⟨_, rfl⟩
      rw [← hnx] at EP EE
      have ENX := Hid.mk hnx.symm
      clear hnx
      generalize cbcE f b iv src k = ce at *
      have HP := Hid.mk hp
      have HXL := Hid.mk hxl
      have HLP := Hid.mk LP
      have HLE := Hid.mk LE
      have HSL := Hid.mk hsl
      clear hp hxl LP LE
      obtain ⟨W0, hW0⟩ : ∃ W0, W0 = wr := ⟨_, rfl⟩
      subst hW0
      go_wp2_with fail
      go_loopw [13, 26] (fun _ iv wx => ∃ (i : Nat), i ≤ b ∧ iv = .int .i64 i ∧ Win wx gx 5 [] (xork (src.drop p) pv i ++ xl.drop i) [] ∧ W0.grownBy wx (some gx)) (fun _ i _ => b - (intOf i).toNat)
      case atStart => exact ⟨0, by omega, rfl, hx, grown_refl _ _⟩
      case round => as_aux_lemma =>
        obtain ⟨i, hi, rfl, hw', gr⟩ := hrel
        by_cases hib : i < b
        · have hib' : (i : Int) < b := by omega
          obtain ⟨j, hj⟩ : ∃ j, j = p + i := ⟨_, rfl⟩
          have c1 := bs_cell (hsr.kept gr hsx) (i := j) (by have := HSL.out; omega)
          have c2 := bs_cell (hbv.kept gr hbx) (i := i) (by have := HLP.out; omega)
          have hgd : (src.drop p).getD i 0 = src.getD j 0 := by rw [hj, List.getD_eq_getElem?_getD, List.getElem?_drop, ← List.getD_eq_getElem?_getD]
          have EX : Hid (xork (src.drop p) pv (i + 1) = xork (src.drop p) pv i ++ [src.getD j 0 ^^^ pv.getD i 0]) := Hid.mk (by rw [xork_succ, hgd])
          have e1 : IntKind.i64.wrap ((p : Int) + i) = (j : Int) := by rw [IntKind.wrap_i64] <;> omega
          have jn : (j : Int) < n := by omega
          have j0 : (0 : Int) ≤ j := by omega
          have i0 : (0 : Int) ≤ i := by omega
          generalize src.getD j 0 = x at *
          generalize pv.getD i 0 = y at *
          have xy := bits_xor8 x y
          have hl1 : i < (xork (src.drop p) pv i ++ xl.drop i).length := by rw [List.length_append, xork_length, List.length_drop, HXL.out]; omega
          have hset := hw'.set (k := i) hl1 (x ^^^ y) (o := i) (by simp)
          have hf := hw'.frozen i
          have hc0 := hw'.cell (k := i) (o := i) hl1 (by simp)
          obtain ⟨cv, hc⟩ : ∃ cv : Value, wr.cell? ⟨gx, i, none⟩ = some cv := ⟨_, hc0⟩
          have hse : (xork (src.drop p) pv i ++ xl.drop i).set i (x ^^^ y) = xork (src.drop p) pv (i + 1) ++ xl.drop (i + 1) := by
            rw [EX.out, List.set_append_right _ _ (by rw [xork_length]; exact Nat.le_refl _), xork_length, Nat.sub_self, List.append_assoc]
            congr 1
            rw [← List.getElem_cons_drop (h := show i < xl.length by rw [HXL.out]; exact hib)]
            rfl
          rw [hse] at hset
          have grs := grown_set gr i (.int .u8 (x ^^^ y).toNat)
          generalize x ^^^ y = z at *
          have HS := Hid.mk hset
          have GS := Hid.mk grs
          clear hset grs hse hc0 hl1 hgd EX hj hw' gr hB hx hg
          go_wp2_with fail
          go_region
          go_wp2_with fail
          exact ⟨⟨i + 1, by omega, by go_num, HS.out.drew, grown_drew GS.out⟩, by simp [intOf]; omega⟩
        · have hib' : ¬ (i : Int) < b := by omega
          have hib2 : b = i := by omega
          subst hib2
          have hX : xork (src.drop p) pv b ++ xl.drop b = xorl ((src.drop p).take b) pv := by
            rw [List.drop_of_length_le (l := xl) (by rw [HXL.out]; exact Nat.le_refl _), List.append_nil]
            have hl : ((src.drop p).take b).length = b := by rw [List.length_take, List.length_drop]; have := HSL.out; omega
            unfold xorl xork
            rw [hl]
            apply List.map_congr_left
            intro q hq
            have hq' : q < b := List.mem_range.1 hq
            congr 1
            rw [List.getD_eq_getElem?_getD, List.getD_eq_getElem?_getD, List.getElem?_take_of_lt hq']
          rw [hX] at hw'
          have hXl : (xorl ((src.drop p).take b) pv).length = b := by rw [xorl_length, List.length_take, List.length_drop]; have := HSL.out; omega
          generalize xorl ((src.drop p).take b) pv = X at *
          have hXb : Bs wr (.slice (some ⟨gx, 0, none⟩) b b) X := hw'.bs hXl.symm (Nat.le_refl _) (by unfold maxLen; omega)
          have hkx := hkr.kept gr hkgx
          have CE := fun W (hk : Keep wr W) => hC.2 W _ X (hkx.keep hk) (hXb.keep hk) hXl
          have hB' := hB.kept gr n3
          have hg' := hg.kept gr n1
          have r0 := hB'.cell 0
          have r1 := hB'.cell 1
          simp only [List.getElem?_cons_zero, List.getElem?_cons_succ] at r0 r1
          have e1 : IntKind.i64.wrap ((p : Int) + b) = ((p + b : Nat) : Int) := by rw [IntKind.wrap_i64] <;> omega
          obtain ⟨p1, hp1⟩ : ∃ p1, p1 = p + b := ⟨_, rfl⟩
          rw [← hp1] at e1
          have q1 : (p : Int) ≤ p1 := by omega
          have q2 : (p1 : Int) ≤ n := by omega
          have q3 : (p1 : Int) ≤ dc := by omega
          have q4 : ¬ dc = p := by omega
          have q5 : p1 - p = b := by omega
          have HP1 := Hid.mk hp1
          clear hp1 hX hsr hbv hB hx hg
          go_wp2_with fail
          refine (CE _ (Keep.refl _)).mono ?_
          rintro e y ⟨v9, rfl, o9, k9⟩
          have hfl : (f X).length = b := hC.1 X hXl
          rw [← EP.out] at o9 hfl
          obtain ⟨Wc, hcp, win, grc⟩ := copy_in (P := Try.prog) (t := 27) Try.underlying27 siz5 (hg'.keep k9) o9.bs (o := p) (k := p) (n := b) (dLen := b) (dCap := dc - p) (by simp) (by rw [hfl]; simp) (by rw [List.length_append, HLE.out, List.length_drop]; omega)
          have hcont : (ce ++ cur.drop p).take p ++ nx.take b ++ (ce ++ cur.drop p).drop (p + b) = (ce ++ nx) ++ cur.drop (p + b) := by
            rw [List.take_append_of_le_length (by rw [HLE.out]; exact Nat.le_refl _), List.take_of_length_le (l := ce) (by rw [HLE.out]; exact Nat.le_refl _), List.take_of_length_le (l := nx) (by omega), List.drop_append, List.drop_of_length_le (l := ce) (by rw [HLE.out]; omega), List.nil_append, HLE.out, List.drop_drop]
            congr 2
            omega
          rw [hcont, ← EE.out] at win
          have hlen : (cbcE f b iv src (k + 1) ++ cur.drop (p + b)).length = cur.length := by rw [EE.out, List.length_append, List.length_append, List.length_drop, HLE.out, hfl]; omega
          have hnb : Bs Wc (.slice (some ⟨g, p, none⟩) b (dc - p)) nx := by
            have h1 := win.bs (n := cur.length) (c := dc) hlen.symm hdc (by unfold maxLen; omega)
            have h2 := h1.part (i := p) (j := p + b) (by omega) (by omega) (some ⟨g, p, none⟩) (fun _ => by simp [Addr.add])
            rw [show p + b - p = b by omega, EE.out, List.append_assoc, List.drop_append, List.drop_of_length_le (l := ce) (by rw [HLE.out]; exact Nat.le_refl _), HLE.out, Nat.sub_self, List.nil_append, List.drop_zero, List.take_append_of_le_length (by omega), List.take_of_length_le (by omega)] at h2
            exact h2
          have Z1 : Win Wc gx 5 [] X [] := (hw'.keep k9).kept grc (Ne.symm n1)
          have Z2 : Arr Wc gB 36 [.int .i64 al, .slice ka kn kc] := (hB'.keep k9).kept grc (Ne.symm n2)
          have Z3 : w.grownBy Wc (some g) := grown_trans (grown_keep (grown_new hgr gr HGX.out) k9) grc
          clear CE hcont hlen hfl o9 hw' hB' hg' r0 r1 gr hgr
          go_wp2_with fail
          go_roundw
          case rel => exact ⟨k + 1, p + b, X, by rw [HP.out]; rfl, by omega, by go_num, by rw [show cbp f b iv src (k + 1) = nx from ENX.out]; exact hnb, by simpa [Value.ownBlock] using n1, Z1, hXl, win, Z2, Z3⟩
          case measure => simp [intOf]; omega
    · have hlt' : ¬ (p : Int) < n := by omega
      have hpn : p = n := by
        have : b * k ≤ b * m := Nat.mul_le_mul_left b hkm
        have := HN.out
        omega
      have hkm2 : k = m := by
        rw [hp, HN.out] at hpn
        exact Nat.eq_of_mul_eq_mul_left (by omega) hpn
      subst hkm2
      rw [hpn] at hg
      have WI := wipe_c gx b b xl [] [] wr hxl.symm (Nat.le_refl _) (by unfold maxLen; omega) hx
      clear hp hpn hxl
      go_wp2_with fail
      refine WI.mono ?_
      rintro e y ⟨rfl, w9, g9⟩
      go_wp2
      go_end0
      exact ⟨rfl, hg.kept g9 n1, grown_new hgr g9 HGX.out⟩
end Go.Proofs.Qxb6500769a
