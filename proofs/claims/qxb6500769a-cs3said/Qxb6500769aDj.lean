/- cipherm: DES on a block. -/
import Derived.Test.Qxb6500769aDi
import Derived.Test.Qxb6500769aSm
namespace Go.Proofs.Qxb6500769a
open Go.RowKit Go.Qm
set_option linter.unusedVariables false
set_option linter.unusedSimpArgs false
attribute [local go_sem ↓] Go.wp_at_zero Go.wp_at_succ

/-- The two halves after n rounds under the keys K. -/
def dst (K : Nat → List UInt8) (l r : List UInt8) : Nat → List UInt8 × List UInt8
  | 0 => (l, r)
  | n + 1 => ((dst K l r n).2, xorl (dst K l r n).1 (desf (dst K l r n).2 (K n)))
def desx (K : Nat → List UInt8) (blk : List UInt8) : List UInt8 :=
  toO (chs ((dst K ((chs (toB blk) tIP).take 32) ((chs (toB blk) tIP).drop 32) 16).2 ++ (dst K ((chs (toB blk) tIP).take 32) ((chs (toB blk) tIP).drop 32) 16).1) tIV)
def kdir (key : List UInt8) (back : Bool) (n : Nat) : List UInt8 := if back then desK key (15 - n) else desK key n
def desB (key blk : List UInt8) (back : Bool) : List UInt8 := desx (kdir key back) blk
theorem desf_length (r k : List UInt8) : (desf r k).length = 32 := chs_length _ _
theorem desB_length (key blk : List UInt8) (back : Bool) : (desB key blk back).length = 8 := by
  rw [desB, desx, toO, toOk_length, chs_length]; rfl
theorem dst_length (K : Nat → List UInt8) (l r : List UInt8) (hl : l.length = 32) (hr : r.length = 32) : ∀ n, (dst K l r n).1.length = 32 ∧ (dst K l r n).2.length = 32
  | 0 => ⟨hl, hr⟩
  | n + 1 => by
    obtain ⟨h1, h2⟩ := dst_length K l r hl hr n
    exact ⟨h2, by rw [dst, xorl_length]; exact h1⟩
theorem Bit.nil : Bit [] := fun i => by simp
theorem Bit.app {a b : List UInt8} (ha : Bit a) (hb : Bit b) : Bit (a ++ b) := by
  intro i
  rw [List.getD_eq_getElem?_getD, List.getElem?_append]
  split
  · rw [← List.getD_eq_getElem?_getD]; exact ha i
  · rw [← List.getD_eq_getElem?_getD]; exact hb _
theorem Bit.of_mem {a : List UInt8} (h : ∀ x ∈ a, x.toNat ≤ 1) : Bit a := by
  intro i
  rw [List.getD_eq_getElem?_getD]
  cases hi : a[i]? with
  | none => simp
  | some x => exact h x (List.mem_of_getElem? hi)
theorem Bit.mem {a : List UInt8} (h : Bit a) : ∀ x ∈ a, x.toNat ≤ 1 := by
  intro x hx
  obtain ⟨i, hi, rfl⟩ := List.getElem_of_mem hx
  have := h i
  rwa [List.getD_eq_getElem?_getD, List.getElem?_eq_getElem hi] at this
theorem Bit.xorl {a b : List UInt8} (ha : Bit a) (hb : Bit b) : Bit (xorl a b) := by
  apply Bit.of_mem
  intro x hx
  unfold Qxb6500769a.xorl at hx
  obtain ⟨i, -, rfl⟩ := List.mem_map.1 hx
  exact bit_xor (ha i) (hb i)
theorem u8_mod2 (y : UInt8) : (y % 2).toNat ≤ 1 := by
  rw [UInt8.toNat_mod]
  have : y.toNat % 2 < 2 := Nat.mod_lt _ (by omega)
  exact Nat.le_of_lt_succ this
theorem Bit.fkk (e k : List UInt8) (n : Nat) : Bit (fkk e k n) := by
  apply Bit.of_mem
  intro x hx
  unfold Qxb6500769a.fkk at hx
  obtain ⟨box, -, hx⟩ := List.mem_flatMap.1 hx
  simp only [four, List.mem_cons, List.not_mem_nil, or_false] at hx
  rcases hx with rfl | rfl | rfl | rfl <;> exact u8_mod2 _
theorem Bit.desf (r k : List UInt8) : Bit (desf r k) := (Bit.fkk _ _ _).chs _
theorem Bit.toB (l : List UInt8) : Bit (toB l) := by
  apply Bit.of_mem
  intro x hx
  unfold Qxb6500769a.toB at hx
  obtain ⟨y, -, hx⟩ := List.mem_flatMap.1 hx
  unfold tbk at hx
  obtain ⟨i, -, rfl⟩ := List.mem_map.1 hx
  rw [obit_val]
  have : y.toNat / 2 ^ (7 - i) % 2 < 2 := Nat.mod_lt _ (by omega)
  omega
theorem Bit.take {a : List UInt8} (h : Bit a) (n : Nat) : Bit (a.take n) := Bit.of_mem fun x hx => h.mem x (List.mem_of_mem_take hx)
theorem Bit.drop {a : List UInt8} (h : Bit a) (n : Nat) : Bit (a.drop n) := Bit.of_mem fun x hx => h.mem x (List.mem_of_mem_drop hx)
theorem Bit.shf {a : List UInt8} (h : Bit a) (n : Nat) : Bit (shf a n) := by
  apply Bit.of_mem
  intro x hx
  unfold Qxb6500769a.shf at hx
  obtain ⟨i, -, rfl⟩ := List.mem_map.1 hx
  exact h _
theorem Bit.cdk {a : List UInt8} (h : Bit a) : ∀ n, Bit (cdk a n)
  | 0 => h
  | n + 1 => (Bit.cdk h n).shf _
theorem Bit.desK (key : List UInt8) (i : Nat) : Bit (desK key i) :=
  ((Bit.cdk (((Bit.toB _).chs _).take _) _).app (Bit.cdk (((Bit.toB _).chs _).drop _) _)).chs _
theorem Bit.dst {K : Nat → List UInt8} {l r : List UInt8} (hl : Bit l) (hr : Bit r) : ∀ n, Bit (dst K l r n).1 ∧ Bit (dst K l r n).2
  | 0 => ⟨hl, hr⟩
  | n + 1 => ⟨(Bit.dst hl hr n).2, (Bit.dst hl hr n).1.xorl (Bit.desf _ _)⟩
theorem tIP_ok : ∀ n ∈ tIP, 1 ≤ n ∧ n ≤ 64 := by decide
theorem tIV_ok : ∀ n ∈ tIV, 1 ≤ n ∧ n ≤ 64 := by decide
set_option maxRecDepth 3000 in
set_option maxHeartbeats 4000000 in
theorem des_c (kv bv : Value) (key blk : List UInt8) (back : Bool) (w : World) (hk : Bs w kv key) (hb : Bs w bv blk) (hkl : key.length = 8) (hbl : blk.length = 8) :
    Calls Try.prog 49 #[kv, bv, .bool back] w fun e w' => ∃ v', e = .returned v' ∧ Own w.heap.size 5 w' v' ((desB key blk back).map cb) ∧ Keep w w' := by
  have DK := desKeys_c kv key w hk hkl
  have ED : Hid (desB key blk back = toO (chs ((dst (kdir key back) ((chs (toB blk) tIP).take 32) ((chs (toB blk) tIP).drop 32) 16).2 ++ (dst (kdir key back) ((chs (toB blk) tIP).take 32) ((chs (toB blk) tIP).drop 32) 16).1) tIV)) := Hid.mk rfl
  have TB := fun W (k : Keep w W) => toBits_c bv blk W (hb.keep k) (by omega)
  have hB : (toB blk).length = 64 := by rw [toB_length, hbl]
  have bB := Bit.toB blk
  generalize toB blk = bits at *
  have HB := Hid.mk hB
  have BB := Hid.mk bB
  clear hB bB hk hb hkl hbl
  go_enter Try.func49, Try.ntmps49
  go_wp2_with fail
  refine DK.mono ?_
  rintro e w1 ⟨v1, vs, rfl, hvs, hvl, hks, k1⟩
  clear DK
  obtain ⟨ka, kc, rfl, hkc, hkm, hkca⟩ := hvs
  unfold maxLen at hkm
  rw [hvl] at hkc ⊢
  obtain ⟨kb, ko, rfl, -⟩ := hkca 0 (vs[0]'(by omega)) (List.getElem?_eq_getElem (by omega))
  have HKC : Hid (∀ i, i < 16 → ∃ a c, w1.cell? ⟨kb, ko + i, none⟩ = some (.slice a 48 c) ∧ Bs w1 (.slice a 48 c) (desK key i)) := Hid.mk (by
    intro i hi
    obtain ⟨b', o', e', h'⟩ := hkca i (vs[i]'(by omega)) (List.getElem?_eq_getElem (by omega))
    have hbs := hks i (vs[i]'(by omega)) (List.getElem?_eq_getElem (by omega))
    simp at e'
    obtain ⟨rfl, rfl⟩ := e'
    obtain ⟨a, c, e2, -⟩ := hbs.form
    rw [desK_length] at e2
    rw [e2] at h' hbs
    exact ⟨a, c, h', hbs⟩)
  clear hkca hks hvl
  go_wp2_with fail
  refine (TB _ k1).mono ?_
  rintro e w2 ⟨v2, rfl, o2, k2⟩
  go_wp2_with fail
  refine (tableIP_c _).mono ?_
  rintro e w3 ⟨v3, rfl, o3, k3⟩
  have CH := fun W (hk : Keep w3 W) => choose_c v2 v3 bits tIP W ((o2.bs.keep k3).keep hk) (o3.sl.keep hk) (by rw [HB.out]; exact tIP_ok) (by decide)
  go_wp2_with fail
  refine (CH _ (Keep.refl _)).mono ?_
  rintro e w4 ⟨v4, rfl, o4, k4⟩
  clear CH o2 o3 TB
  have hcl : (chs bits tIP).length = 64 := chs_length _ _
  have bC : Bit (chs bits tIP) := BB.out.chs _
  generalize chs bits tIP = lr at *
  have hlr := o4.bs
  obtain ⟨pa, pc, rfl, hpc, hpm, hca⟩ := hlr.form
  obtain ⟨bb, bo, rfl, -⟩ := hca 0 (by omega)
  clear hca
  unfold maxLen at hpm
  rw [hcl] at hlr hpc ⊢
  have p1 : (32 : Int) ≤ pc := by omega
  have p2 : (64 : Int) ≤ pc := by omega
  have p3 : ¬ pc = 32 := by omega
  have p4 : ¬ pc = 0 := by omega
  have K14 := (k2.trans k3).trans k4
  have hl0 := hlr.part (i := 0) (j := 32) (by omega) (by omega) (some ⟨bb, bo, none⟩) (fun _ => by simp [Addr.add])
  have hr0 := hlr.part (i := 32) (j := 64) (by omega) (by omega) (some ⟨bb, bo + 32, none⟩) (fun _ => by simp [Addr.add])
  rw [show lr.drop 0 = lr by simp, show 32 - 0 = 32 by omega] at hl0
  have ht32 : (lr.drop 32).take 32 = lr.drop 32 := List.take_of_length_le (by simp; omega)
  rw [show 64 - 32 = 32 by omega, ht32] at hr0
  have hll : (lr.take 32).length = 32 := by simp; omega
  have hlr2 : (lr.drop 32).length = 32 := by simp; omega
  have bl := bC.take 32
  have br := bC.drop 32
  generalize lr.take 32 = l0 at *
  generalize lr.drop 32 = r0 at *
  have HLN := Hid.mk (dst_length (kdir key back) l0 r0 hll hlr2)
  have HBT : Hid (∀ n, Bit (dst (kdir key back) l0 r0 n).1 ∧ Bit (dst (kdir key back) l0 r0 n).2) := Hid.mk (Bit.dst bl br)
  clear hll hlr2 ht32 o4 hlr hcl k2 k3 k4 bl br bC
  go_wp2_with fail
  go_quiet (fail)
  go_wp2_with fail
  go_loopw [9, 10, 11, 12, 13, 14, 15] (fun lv rv nv _ _ _ _ wr => ∃ n : Nat, n ≤ 16 ∧ nv = .int .i64 n ∧ Bs wr lv (dst (kdir key back) l0 r0 n).1 ∧ Bs wr rv (dst (kdir key back) l0 r0 n).2 ∧ Keep w4 wr) (fun _ _ n _ _ _ _ _ => 16 - (intOf n).toNat)
  case atStart => exact ⟨0, by omega, rfl, hl0.keep ((Keep.refl _).drewN nq), hr0.keep ((Keep.refl _).drewN nq), (Keep.refl _).drewN nq⟩
  case round => as_aux_lemma =>
    clear hl0 hr0 p1 p2 p3 p4
    obtain ⟨n, hn, rfl, hl, hr, kw⟩ := hrel
    by_cases hlt : n < 16
    · have hlt' : (n : Int) < 16 := by omega
      obtain ⟨a1, c1, hc1, hb1⟩ := HKC.out n hlt
      obtain ⟨a2, c2, hc2, hb2⟩ := HKC.out (15 - n) (by omega)
      replace hb1 := hb1.keep K14
      replace hb2 := hb2.keep K14
      replace hc1 := kw.cell (K14.cell hc1)
      replace hc2 := kw.cell (K14.cell hc2)
      obtain ⟨m, hm⟩ : ∃ m, m = 15 - n := ⟨_, rfl⟩
      rw [← hm] at hc2
      have e1 : IntKind.i64.wrap (15 - (n : Int)) = (m : Int) := by rw [IntKind.wrap_i64] <;> omega
      have m0 : (0 : Int) ≤ m := by omega
      have m16 : (m : Int) < 16 := by omega
      have n0 : (0 : Int) ≤ n := by omega
      clear hm
      cases back with
      | false =>
        have EK : Hid (kdir key false n = desK key n) := Hid.mk rfl
        have LN := HLN.out n
        have BT := HBT.out n
        have ES1 : Hid ((dst (kdir key false) l0 r0 (n + 1)).1 = (dst (kdir key false) l0 r0 n).2) := Hid.mk rfl
        have ES2 : Hid ((dst (kdir key false) l0 r0 (n + 1)).2 = xorl (dst (kdir key false) l0 r0 n).1 (desf (dst (kdir key false) l0 r0 n).2 (kdir key false n))) := Hid.mk rfl
        rw [EK.out] at ES2
        generalize (dst (kdir key false) l0 r0 n).1 = l at *
        generalize (dst (kdir key false) l0 r0 n).2 = r at *
        have DF := fun W (hk : Keep wr W) => desF_c _ _ r (desK key n) W (hr.keep hk) (hb1.keep (kw.trans hk)) LN.2 (desK_length _ _) BT.2 (Bit.desK _ _)
        obtain ⟨la, lc, rfl, hlc, hlm, hlca⟩ := hl.form
        unfold maxLen at hlm
        have hl32 := LN.1
        rw [hl32] at hlc hl ⊢
        obtain ⟨lb, lo, rfl, -⟩ := hlca 0 (by omega)
        have HLC : Hid (∀ i, i < 32 → wr.cell? ⟨lb, lo + i, none⟩ = some (.int .u8 (l.getD i 0).toNat)) := Hid.mk (by
          intro i hi
          obtain ⟨b', o', e', h'⟩ := hlca i (by omega)
          simp at e'
          obtain ⟨rfl, rfl⟩ := e'
          rw [h', List.getD_eq_getElem?_getD, List.getElem?_eq_getElem (by omega)]; rfl)
        have HL32 := Hid.mk hl32
        clear hlca hl32 LN BT hl
        obtain ⟨W0, hW0⟩ : ∃ W0, W0 = wr := ⟨_, rfl⟩
        subst hW0
        go_wp2_with fail
        refine (DF _ (Keep.refl _)).mono ?_
        rintro e y1 ⟨v5, rfl, o5, k5⟩
        clear DF
        have hfl : (desf r (desK key n)).length = 32 := desf_length _ _
        generalize desf r (desK key n) = f at *
        obtain ⟨fa, fc, rfl, hfc, hfm, hfca⟩ := o5.bs.form
        unfold maxLen at hfm
        rw [hfl] at hfc ⊢
        obtain ⟨fb, fo, rfl, -⟩ := hfca 0 (by omega)
        have HFC : Hid (∀ i, i < 32 → y1.cell? ⟨fb, fo + i, none⟩ = some (.int .u8 (f.getD i 0).toNat)) := Hid.mk (by
          intro i hi
          obtain ⟨b', o', e', h'⟩ := hfca i (by omega)
          simp at e'
          obtain ⟨rfl, rfl⟩ := e'
          rw [h', List.getD_eq_getElem?_getD, List.getElem?_eq_getElem (by omega)]; rfl)
        clear hfca hfl o5
        go_wp2_with fail
        go_loopw [14, 15] (fun ov iv wx => ∃ i : Nat, i ≤ 32 ∧ iv = .int .i64 i ∧ Own y1.heap.size 5 wx ov ((xork l f i).map cb) ∧ Keep y1 wx) (fun _ i _ => 32 - (intOf i).toNat)
        case atStart => exact ⟨0, by omega, rfl, Own.lit [] (Nat.le_refl _) (by simp), (Keep.refl _).alloc _⟩
        case round => as_aux_lemma =>
          obtain ⟨i, hi, rfl, hown, kx⟩ := hrel
          by_cases hi32 : i < 32
          · have hi32' : (i : Int) < 32 := by omega
            have hg : (0 : Int) ≤ i := by omega
            have hkl : ((xork l f i).map cb).length = i := by rw [List.length_map, xork_length]
            have HK := Hid.mk hkl
            clear hkl
            have h1w := k5.cell (HLC.out i hi32)
            have h2w := HFC.out i hi32
            have h1 := kx.cell h1w
            have h2 := kx.cell h2w
            have EX : Hid (xork l f (i + 1) = xork l f i ++ [l.getD i 0 ^^^ f.getD i 0]) := Hid.mk (xork_succ _ _ _)
            generalize l.getD i 0 = xa at *
            generalize f.getD i 0 = xb at *
            have hx := bits_xor8 xa xb
            go_wp2_with fail
            have KA := (Keep.refl wr).alloc (.cells #[.int .u8 (xa ^^^ xb).toNat] 5)
            have OA := hown.alloc (.cells #[.int .u8 (xa ^^^ xb).toNat] 5)
            have hsz := kx.size
            go_region_held3 (fun w' => w'.cell? ⟨lb, lo + i, none⟩ = some (.int .u8 xa.toNat) ∧ w'.cell? ⟨fb, fo + i, none⟩ = some (.int .u8 xb.toNat))
              (first | assumption | exact ⟨h1, h2⟩ | exact ⟨KA.cell h1, KA.cell h2⟩ | exact ⟨KK.cell h1w, KK.cell h2w⟩)
              ((refine step_app (by rfl) _ _ _ (by rfl) Try.underlying27 inf5 rfl y1.heap.size (w := (wr.alloc (.cells #[.int .u8 (xa ^^^ xb).toNat] 5)).drew) OA (Sl.one (w := wr) (.int .u8 (xa ^^^ xb).toNat)) (by simp [Value.oneCell']) (by rfl) (by rfl) (by rw [HK.out]; simp [maxLen]; omega) (by rw [HK.out]; simp; omega) (by simp; omega) ?_; intro v' w' hown' hgr hob; have KK : Keep y1 w' := ((kx.alloc _).drew).grown hgr (fun q hq => (hown.lt q hq).1)))
            all_goals
              go_wp2_with fail
              go_roundw
              case rel => exact ⟨i + 1, by omega, by go_num, by rw [EX.out, List.map_append]; exact hown', KK⟩
              case measure => simp [intOf]; omega
          · have hi32' : ¬ (i : Int) < 32 := by omega
            have : i = 32 := by omega
            subst this
            have hxl : xork l f 32 = xorl l f := by rw [← HL32.out]; rfl
            rw [hxl] at hown
            have hr' := hr.keep (k5.trans kx)
            have hn' := hown.bs
            have KW := kw.trans (k5.trans kx)
            clear hxl hr hown
            go_wp2_with fail
            go_roundw
            case rel => exact ⟨n + 1, by omega, by go_num, by rw [ES1.out]; exact hr', by rw [ES2.out]; exact hn', KW⟩
            case measure => simp [intOf]; omega
      | true =>
        have EK : Hid (kdir key true n = desK key (15 - n)) := Hid.mk rfl
        have LN := HLN.out n
        have BT := HBT.out n
        have ES1 : Hid ((dst (kdir key true) l0 r0 (n + 1)).1 = (dst (kdir key true) l0 r0 n).2) := Hid.mk rfl
        have ES2 : Hid ((dst (kdir key true) l0 r0 (n + 1)).2 = xorl (dst (kdir key true) l0 r0 n).1 (desf (dst (kdir key true) l0 r0 n).2 (kdir key true n))) := Hid.mk rfl
        rw [EK.out] at ES2
        generalize (dst (kdir key true) l0 r0 n).1 = l at *
        generalize (dst (kdir key true) l0 r0 n).2 = r at *
        have DF := fun W (hk : Keep wr W) => desF_c _ _ r (desK key (15 - n)) W (hr.keep hk) (hb2.keep (kw.trans hk)) LN.2 (desK_length _ _) BT.2 (Bit.desK _ _)
        obtain ⟨la, lc, rfl, hlc, hlm, hlca⟩ := hl.form
        unfold maxLen at hlm
        have hl32 := LN.1
        rw [hl32] at hlc hl ⊢
        obtain ⟨lb, lo, rfl, -⟩ := hlca 0 (by omega)
        have HLC : Hid (∀ i, i < 32 → wr.cell? ⟨lb, lo + i, none⟩ = some (.int .u8 (l.getD i 0).toNat)) := Hid.mk (by
          intro i hi
          obtain ⟨b', o', e', h'⟩ := hlca i (by omega)
          simp at e'
          obtain ⟨rfl, rfl⟩ := e'
          rw [h', List.getD_eq_getElem?_getD, List.getElem?_eq_getElem (by omega)]; rfl)
        have HL32 := Hid.mk hl32
        clear hlca hl32 LN BT hl
        obtain ⟨W0, hW0⟩ : ∃ W0, W0 = wr := ⟨_, rfl⟩
        subst hW0
        go_wp2_with fail
        refine (DF _ (Keep.refl _)).mono ?_
        rintro e y1 ⟨v5, rfl, o5, k5⟩
        clear DF
        have hfl : (desf r (desK key (15 - n))).length = 32 := desf_length _ _
        generalize desf r (desK key (15 - n)) = f at *
        obtain ⟨fa, fc, rfl, hfc, hfm, hfca⟩ := o5.bs.form
        unfold maxLen at hfm
        rw [hfl] at hfc ⊢
        obtain ⟨fb, fo, rfl, -⟩ := hfca 0 (by omega)
        have HFC : Hid (∀ i, i < 32 → y1.cell? ⟨fb, fo + i, none⟩ = some (.int .u8 (f.getD i 0).toNat)) := Hid.mk (by
          intro i hi
          obtain ⟨b', o', e', h'⟩ := hfca i (by omega)
          simp at e'
          obtain ⟨rfl, rfl⟩ := e'
          rw [h', List.getD_eq_getElem?_getD, List.getElem?_eq_getElem (by omega)]; rfl)
        clear hfca hfl o5
        go_wp2_with fail
        go_loopw [14, 15] (fun ov iv wx => ∃ i : Nat, i ≤ 32 ∧ iv = .int .i64 i ∧ Own y1.heap.size 5 wx ov ((xork l f i).map cb) ∧ Keep y1 wx) (fun _ i _ => 32 - (intOf i).toNat)
        case atStart => exact ⟨0, by omega, rfl, Own.lit [] (Nat.le_refl _) (by simp), (Keep.refl _).alloc _⟩
        case round => as_aux_lemma =>
          obtain ⟨i, hi, rfl, hown, kx⟩ := hrel
          by_cases hi32 : i < 32
          · have hi32' : (i : Int) < 32 := by omega
            have hg : (0 : Int) ≤ i := by omega
            have hkl : ((xork l f i).map cb).length = i := by rw [List.length_map, xork_length]
            have HK := Hid.mk hkl
            clear hkl
            have h1w := k5.cell (HLC.out i hi32)
            have h2w := HFC.out i hi32
            have h1 := kx.cell h1w
            have h2 := kx.cell h2w
            have EX : Hid (xork l f (i + 1) = xork l f i ++ [l.getD i 0 ^^^ f.getD i 0]) := Hid.mk (xork_succ _ _ _)
            generalize l.getD i 0 = xa at *
            generalize f.getD i 0 = xb at *
            have hx := bits_xor8 xa xb
            go_wp2_with fail
            have KA := (Keep.refl wr).alloc (.cells #[.int .u8 (xa ^^^ xb).toNat] 5)
            have OA := hown.alloc (.cells #[.int .u8 (xa ^^^ xb).toNat] 5)
            have hsz := kx.size
            go_region_held3 (fun w' => w'.cell? ⟨lb, lo + i, none⟩ = some (.int .u8 xa.toNat) ∧ w'.cell? ⟨fb, fo + i, none⟩ = some (.int .u8 xb.toNat))
              (first | assumption | exact ⟨h1, h2⟩ | exact ⟨KA.cell h1, KA.cell h2⟩ | exact ⟨KK.cell h1w, KK.cell h2w⟩)
              ((refine step_app (by rfl) _ _ _ (by rfl) Try.underlying27 inf5 rfl y1.heap.size (w := (wr.alloc (.cells #[.int .u8 (xa ^^^ xb).toNat] 5)).drew) OA (Sl.one (w := wr) (.int .u8 (xa ^^^ xb).toNat)) (by simp [Value.oneCell']) (by rfl) (by rfl) (by rw [HK.out]; simp [maxLen]; omega) (by rw [HK.out]; simp; omega) (by simp; omega) ?_; intro v' w' hown' hgr hob; have KK : Keep y1 w' := ((kx.alloc _).drew).grown hgr (fun q hq => (hown.lt q hq).1)))
            all_goals
              go_wp2_with fail
              go_roundw
              case rel => exact ⟨i + 1, by omega, by go_num, by rw [EX.out, List.map_append]; exact hown', KK⟩
              case measure => simp [intOf]; omega
          · have hi32' : ¬ (i : Int) < 32 := by omega
            have : i = 32 := by omega
            subst this
            have hxl : xork l f 32 = xorl l f := by rw [← HL32.out]; rfl
            rw [hxl] at hown
            have hr' := hr.keep (k5.trans kx)
            have hn' := hown.bs
            have KW := kw.trans (k5.trans kx)
            clear hxl hr hown
            go_wp2_with fail
            go_roundw
            case rel => exact ⟨n + 1, by omega, by go_num, by rw [ES1.out]; exact hr', by rw [ES2.out]; exact hn', KW⟩
            case measure => simp [intOf]; omega
    · have hlt' : ¬ (n : Int) < 16 := by omega
      have : n = 16 := by omega
      subst this
      have LN := HLN.out 16
      generalize dst (kdir key back) l0 r0 16 = st at *
      have hal : (st.2 ++ st.1).length = 64 := by rw [List.length_append, LN.1, LN.2]
      have BO := fun W (hk : Keep wr W) => both_c _ _ st.2 st.1 W (hr.keep hk) (hl.keep hk) (by rw [LN.1, LN.2]; omega)
      have HAL := Hid.mk hal
      clear hal LN
      go_wp2_with fail
      refine (BO _ (Keep.refl _)).mono ?_
      rintro e y1 ⟨v5, rfl, o5, k5⟩
      go_wp2_with fail
      refine (tableIPInverse_c _).mono ?_
      rintro e y2 ⟨v6, rfl, o6, k6⟩
      have CH := fun W (hk : Keep y2 W) => choose_c _ v6 _ tIV W ((o5.bs.keep k6).keep hk) (o6.sl.keep hk) (by rw [HAL.out]; exact tIV_ok) (by decide)
      go_wp2_with fail
      refine (CH _ (Keep.refl _)).mono ?_
      rintro e y3 ⟨v7, rfl, o7, k7⟩
      have TO := fun W (hk : Keep y3 W) => toOctets_c _ _ W (o7.bs.keep hk) (by rw [chs_length]; decide)
      go_wp2_with fail
      refine (TO _ (Keep.refl _)).mono ?_
      rintro e y4 ⟨v8, rfl, o8, k8⟩
      go_wp2
      go_ret
      have KK := ((((k1.trans K14).trans kw).trans k5).trans k6).trans k7
      exact ⟨_, rfl, by rw [ED.out]; exact o8.mono KK.size, KK.trans k8⟩
end Go.Proofs.Qxb6500769a
