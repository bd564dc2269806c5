/- cipherm: DES's f. -/
import Derived.Test.Qxb6500769aDh
namespace Go.Proofs.Qxb6500769a
open Go.RowKit Go.Qm
set_option linter.unusedVariables false
set_option linter.unusedSimpArgs false
attribute [local go_sem ↓] Go.wp_at_zero Go.wp_at_succ

theorem z111 : (Try.prog.info? 111).map (·.zero) = some (some (.agg (([0, 0, 0, 0, 0, 0] : List UInt8).map cb).toArray)) := by kernel_rfl
/-- The six bits of a box, after q stores. -/
def bkk (e k : List UInt8) (p : Nat) : Nat → List UInt8
  | 0 => [0, 0, 0, 0, 0, 0]
  | q + 1 => (bkk e k p q).set q (e.getD (p + q) 0 ^^^ k.getD (p + q) 0)
theorem bkk_length (e k : List UInt8) (p : Nat) : ∀ q, (bkk e k p q).length = 6
  | 0 => rfl
  | q + 1 => by rw [bkk, List.length_set, bkk_length e k p q]
def bx (e k : List UInt8) (p j : Nat) : UInt8 := e.getD (p + j) 0 ^^^ k.getD (p + j) 0
theorem bkk_six (e k : List UInt8) (p : Nat) : bkk e k p 6 = [bx e k p 0, bx e k p 1, bx e k p 2, bx e k p 3, bx e k p 4, bx e k p 5] := rfl
def sidx (e k : List UInt8) (p : Nat) : Nat :=
  16 * ((bx e k p 0).toNat * 2 + (bx e k p 5).toNat) + ((bx e k p 1).toNat * 8 + (bx e k p 2).toNat * 4 + (bx e k p 3).toNat * 2 + (bx e k p 4).toNat)
def sval (e k : List UInt8) (box : Nat) : UInt8 := sT.getD (64 * box + sidx e k (6 * box)) 0
def four (y : UInt8) : List UInt8 := [y / 8 % 2, y / 4 % 2, y / 2 % 2, y % 2]
def fkk (e k : List UInt8) (n : Nat) : List UInt8 := (List.range n).flatMap fun box => four (sval e k box)
def desf (r k : List UInt8) : List UInt8 := chs (fkk (chs r tE) k 8) tP
theorem fkk_succ (e k : List UInt8) (n : Nat) : fkk e k (n + 1) = fkk e k n ++ four (sval e k n) := by
  rw [fkk, List.range_succ, List.flatMap_append]; simp [fkk]
theorem fkk_length (e k : List UInt8) : ∀ n, (fkk e k n).length = 4 * n
  | 0 => rfl
  | n + 1 => by rw [fkk_succ, List.length_append, fkk_length e k n]; simp [four]; omega
theorem four_cb (y : UInt8) : (four y).map cb = [.int .u8 ((y.toNat : Int) / 8 % 2), .int .u8 ((y.toNat : Int) / 4 % 2), .int .u8 ((y.toNat : Int) / 2 % 2), .int .u8 ((y.toNat : Int) % 2)] := by
  simp [four, cb, UInt8.toNat_mod, UInt8.toNat_div]
theorem tE_ok : ∀ n ∈ tE, 1 ≤ n ∧ n ≤ 32 := by decide
theorem tP_ok : ∀ n ∈ tP, 1 ≤ n ∧ n ≤ 32 := by decide
def Bit (l : List UInt8) : Prop := ∀ i, (l.getD i 0).toNat ≤ 1
theorem Bit.chs {l : List UInt8} (h : Bit l) (t : List Nat) : Bit (chs l t) := by
  intro i
  unfold Qxb6500769a.chs
  rw [List.getD_eq_getElem?_getD, List.getElem?_map]
  cases t[i]? with
  | none => simp
  | some n => exact h (n - 1)
theorem bit_xor {x y : UInt8} (hx : x.toNat ≤ 1) (hy : y.toNat ≤ 1) : (x ^^^ y).toNat ≤ 1 := by
  have h1 : x = 0 ∨ x = 1 := by
    have : x.toNat = 0 ∨ x.toNat = 1 := by omega
    rcases this with h | h
    · left; exact UInt8.toNat_inj.1 h
    · right; exact UInt8.toNat_inj.1 h
  have h2 : y = 0 ∨ y = 1 := by
    have : y.toNat = 0 ∨ y.toNat = 1 := by omega
    rcases this with h | h
    · left; exact UInt8.toNat_inj.1 h
    · right; exact UInt8.toNat_inj.1 h
  rcases h1 with rfl | rfl <;> rcases h2 with rfl | rfl <;> decide
theorem bx_le {e k : List UInt8} (he : Bit e) (hk : Bit k) (p j : Nat) : (bx e k p j).toNat ≤ 1 := bit_xor (he _) (hk _)
set_option maxRecDepth 3000 in
set_option maxHeartbeats 4000000 in
theorem desF_c (rv kv : Value) (r k : List UInt8) (w : World) (hr : Bs w rv r) (hk : Bs w kv k) (hrl : r.length = 32) (hkl : k.length = 48) (br : Bit r) (bk : Bit k) :
    Calls Try.prog 75 #[rv, kv] w fun e w' => ∃ v', e = .returned v' ∧ Own w.heap.size 5 w' v' ((desf r k).map cb) ∧ Keep w w' := by
  obtain ⟨ka, kc, rfl, hkc, hkm, hkca⟩ := hk.form
  unfold maxLen at hkm
  rw [hkl] at hkc hk ⊢
  obtain ⟨kb, ko, rfl, -⟩ := hkca 0 (by omega)
  have HKC : Hid (∀ i, i < 48 → w.cell? ⟨kb, ko + i, none⟩ = some (.int .u8 (k.getD i 0).toNat)) := Hid.mk (by
    intro i hi
    obtain ⟨b', o', e', h'⟩ := hkca i (by omega)
    simp at e'
    obtain ⟨rfl, rfl⟩ := e'
    rw [h', List.getD_eq_getElem?_getD, List.getElem?_eq_getElem (by omega)]; rfl)
  have ED : Hid (desf r k = chs (fkk (chs r tE) k 8) tP) := Hid.mk rfl
  clear hkca hk
  have HRL := Hid.mk hrl
  have HKL := Hid.mk hkl
  have BR := Hid.mk br
  have BK := Hid.mk bk
  clear hrl hkl br bk
  obtain ⟨zs, hzs, hz⟩ := z109e
  have HS := Hid.mk (show (sT.map cb).length = 512 by rw [List.length_map, sT_length])
  have HZS := Hid.mk hzs
  have HZ := Hid.mk hz
  clear hzs hz
  have TS := fun W => tableS_c W
  have HSC : Hid (∀ i, i < 512 → (sT.map cb)[i]? = some (.int .u8 (sT.getD i 0).toNat)) := Hid.mk (by
    intro i hi
    rw [List.getElem?_map, List.getD_eq_getElem?_getD, List.getElem?_eq_getElem (by rw [sT_length]; exact hi)]; rfl)
  have HS1 : Hid (((sT.map cb).toArray).all (·.oneCell') = true) := Hid.mk (cb_ones _)
  have ESV : Hid (∀ e k box, sval e k box = sT.getD (64 * box + sidx e k (6 * box)) 0) := Hid.mk fun _ _ _ => rfl
  generalize sT = S at *
  go_enter Try.func75, Try.ntmps75
  go_wp2_with fail
  refine (TS _).mono ?_
  rintro e w1 ⟨rfl, k1⟩
  clear TS
  go_wp2_with (first
    | (refine wpList_alloc_z (by rfl) 109 (by rfl) zs HZ.out ?_)
    | (refine wpList_store_row (by rfl) 109 (.tmp 5) (.tmp 14) (by rfl) w1.heap.size (S.map cb).toArray (by rfl) (by rfl) 109 _ (Arr.new w1 109 _) (by rw [List.size_toArray, HS.out]; exact s109) (by simp [HS.out, HZS.out]) HS1.out ?_))
  have AS := (Arr.new w1 109 zs).row (S.map cb)
  have K2 : Keep w ((w1.alloc (.cells zs.toArray 109)).setRow w1.heap.size (S.map cb).toArray) := (k1.alloc _).setRow k1.size _
  generalize (w1.alloc (.cells zs.toArray 109)).setRow w1.heap.size (S.map cb).toArray = w2 at *
  obtain ⟨gs, hgs⟩ : ∃ gs, gs = w1.heap.size := ⟨_, rfl⟩
  rw [← hgs] at AS ⊢
  clear hgs HZ HZS HS1 k1
  refine (tableE_c _).mono ?_
  rintro e w3 ⟨v3, rfl, o3, k3⟩
  have CH := fun W (hk : Keep w3 W) => choose_c rv v3 r tE W ((hr.keep (K2.trans k3)).keep hk) (o3.sl.keep hk) (by rw [HRL.out]; exact tE_ok) (by decide)
  go_wp2_with fail
  refine (CH _ (Keep.refl _)).mono ?_
  rintro e w4 ⟨v4, rfl, o4, k4⟩
  have hel : (chs r tE).length = 48 := chs_length _ _
  have be : Bit (chs r tE) := BR.out.chs _
  generalize chs r tE = ee at *
  clear CH o3 hr
  have AS4 := AS.keep (k3.trans k4)
  have K4 := (K2.trans k3).trans k4
  obtain ⟨ea, ec, rfl, hec, hem, heca⟩ := o4.bs.form
  unfold maxLen at hem
  rw [hel] at hec ⊢
  obtain ⟨eb, eo, rfl, -⟩ := heca 0 (by omega)
  have HEC : Hid (∀ i, i < 48 → w4.cell? ⟨eb, eo + i, none⟩ = some (.int .u8 (ee.getD i 0).toNat)) := Hid.mk (by
    intro i hi
    obtain ⟨b', o', e', h'⟩ := heca i (by omega)
    simp at e'
    obtain ⟨rfl, rfl⟩ := e'
    rw [h', List.getD_eq_getElem?_getD, List.getElem?_eq_getElem (by omega)]; rfl)
  have BE := Hid.mk be
  clear heca o4 hel be AS k3 k4 K2
  go_wp2_with fail
  go_loopw [7, 8, 9, 10, 11, 12, 13] (fun ov bv _ _ _ _ _ wr => ∃ n : Nat, n ≤ 8 ∧ bv = .int .i64 n ∧ Own w4.heap.size 5 wr ov ((fkk ee k n).map cb) ∧ Keep w4 wr) (fun _ b _ _ _ _ _ _ => 8 - (intOf b).toNat)
  case atStart => exact ⟨0, by omega, rfl, Own.lit [] (Nat.le_refl _) (by simp), (Keep.refl _).alloc _⟩
  case round => as_aux_lemma =>
    obtain ⟨n, hn, rfl, hown, kw⟩ := hrel
    obtain ⟨W0, hW0⟩ : ∃ W0, W0 = wr := ⟨_, rfl⟩
    subst hW0
    by_cases hlt : n < 8
    · have hlt' : (n : Int) < 8 := by omega
      obtain ⟨p, hp⟩ : ∃ p : Nat, p = 6 * n := ⟨_, rfl⟩
      have e1 : IntKind.i64.wrap (6 * (n : Int)) = (p : Int) := by rw [IntKind.wrap_i64] <;> omega
      have p42 : p ≤ 42 := by omega
      have HP := Hid.mk hp
      clear hp
      have AB : Arr (W0.alloc (.cells #[cb 0, cb 0, cb 0, cb 0, cb 0, cb 0] 111)) W0.heap.size 111 ((bkk ee k p 0).map cb) := Arr.new W0 111 [cb 0, cb 0, cb 0, cb 0, cb 0, cb 0]
      have KB : Keep W0 (W0.alloc (.cells #[cb 0, cb 0, cb 0, cb 0, cb 0, cb 0] 111)) := (Keep.refl W0).alloc _
      go_wp2_with (refine wpList_alloc_z (by rfl) 111 (by rfl) (([0, 0, 0, 0, 0, 0] : List UInt8).map cb) z111 ?_)
      obtain ⟨gb, hgb⟩ : ∃ gb, gb = W0.heap.size := ⟨_, rfl⟩
      rw [← hgb] at AB ⊢
      have HGB := Hid.mk hgb
      clear hgb
      go_loopw [10] (fun jv wx => ∃ q : Nat, q ≤ 6 ∧ jv = .int .i64 q ∧ Arr wx gb 111 ((bkk ee k p q).map cb) ∧ Keep W0 wx) (fun j _ => 6 - (intOf j).toNat)
      case atStart => exact ⟨0, by omega, rfl, AB, KB⟩
      case round => as_aux_lemma =>
        clear AB KB
        obtain ⟨q, hq, rfl, AX, KX⟩ := hrel
        by_cases hq6 : q < 6
        · have hq6' : (q : Int) < 6 := by omega
          obtain ⟨j, hj⟩ : ∃ j : Nat, j = p + q := ⟨_, rfl⟩
          have j48 : j < 48 := by omega
          have c1 := KX.cell (kw.cell (HEC.out j j48))
          have c2 := KX.cell (kw.cell (K4.cell (HKC.out j j48)))
          have EB : Hid (bkk ee k p (q + 1) = (bkk ee k p q).set q (ee.getD (p + q) 0 ^^^ k.getD (p + q) 0)) := Hid.mk rfl
          rw [← hj] at EB
          have e2 : IntKind.i64.wrap ((p : Int) + q) = (j : Int) := by rw [IntKind.wrap_i64] <;> omega
          generalize ee.getD j 0 = x at *
          generalize k.getD j 0 = y at *
          have xy := bits_xor8 x y
          generalize x ^^^ y = z at *
          have hf := AX.frozen q
          have hql : q < ((bkk ee k p q).map cb).length := by rw [List.length_map, bkk_length]; exact hq6
          have hc0 := (AX.cell q).trans (List.getElem?_eq_getElem hql)
          obtain ⟨cv, hcv⟩ : ∃ cv, cv = ((bkk ee k p q).map cb)[q] := ⟨_, rfl⟩
          have hc : wr.cell? ⟨gb, q, none⟩ = some cv := by rw [hcv]; exact hc0
          have hset := AX.set q (.int .u8 z.toNat)
          have kset : Keep W0 (wr.setCell ⟨gb, q, none⟩ (.int .u8 z.toNat)) := KX.setCell (Nat.le_of_eq HGB.out.symm) _
          rw [show (Value.int .u8 z.toNat) = cb z from rfl, ← List.map_set, ← EB.out] at hset
          have HS2 := Hid.mk hset
          have KS2 := Hid.mk kset
          have j48' : (j : Int) < 48 := by omega
          have j0 : (0 : Int) ≤ j := by omega
          have q0 : (0 : Int) ≤ q := by omega
          clear hset kset hj EB hown AX hc0 hcv hql
          go_wp2_with fail
          go_region
          go_wp2_with fail
          exact ⟨⟨q + 1, by omega, by go_num, HS2.out.drew, KS2.out.drew⟩, by simp [intOf]; omega⟩
        · have hq6' : ¬ (q : Int) < 6 := by omega
          have : q = 6 := by omega
          subst this
          rw [bkk_six] at AX
          have b0 : (bx ee k p 0).toNat ≤ 1 := bx_le BE.out BK.out _ _
          have b1 : (bx ee k p 1).toNat ≤ 1 := bx_le BE.out BK.out _ _
          have b2 : (bx ee k p 2).toNat ≤ 1 := bx_le BE.out BK.out _ _
          have b3 : (bx ee k p 3).toNat ≤ 1 := bx_le BE.out BK.out _ _
          have b4 : (bx ee k p 4).toNat ≤ 1 := bx_le BE.out BK.out _ _
          have b5 : (bx ee k p 5).toNat ≤ 1 := bx_le BE.out BK.out _ _
          have ESI : Hid (sidx ee k p = 16 * ((bx ee k p 0).toNat * 2 + (bx ee k p 5).toNat) + ((bx ee k p 1).toNat * 8 + (bx ee k p 2).toNat * 4 + (bx ee k p 3).toNat * 2 + (bx ee k p 4).toNat)) := Hid.mk rfl
          have c0 : wr.cell? ⟨gb, 0, none⟩ = some (.int .u8 (bx ee k p 0).toNat) := AX.cell 0
          have c1 : wr.cell? ⟨gb, 1, none⟩ = some (.int .u8 (bx ee k p 1).toNat) := AX.cell 1
          have c2 : wr.cell? ⟨gb, 2, none⟩ = some (.int .u8 (bx ee k p 2).toNat) := AX.cell 2
          have c3 : wr.cell? ⟨gb, 3, none⟩ = some (.int .u8 (bx ee k p 3).toNat) := AX.cell 3
          have c4 : wr.cell? ⟨gb, 4, none⟩ = some (.int .u8 (bx ee k p 4).toNat) := AX.cell 4
          have c5 : wr.cell? ⟨gb, 5, none⟩ = some (.int .u8 (bx ee k p 5).toNat) := AX.cell 5
          generalize (bx ee k p 0).toNat = x0 at *
          generalize (bx ee k p 1).toNat = x1 at *
          generalize (bx ee k p 2).toNat = x2 at *
          generalize (bx ee k p 3).toNat = x3 at *
          generalize (bx ee k p 4).toNat = x4 at *
          generalize (bx ee k p 5).toNat = x5 at *
          obtain ⟨row, hrow⟩ : ∃ row, row = x0 * 2 + x5 := ⟨_, rfl⟩
          obtain ⟨col, hcol⟩ : ∃ col, col = x1 * 8 + x2 * 4 + x3 * 2 + x4 := ⟨_, rfl⟩
          obtain ⟨i1, hi1⟩ : ∃ i1, i1 = 16 * row + col := ⟨_, rfl⟩
          have E1 : IntKind.i64.wrap ((x0 : Int) * 2 + x5) = (row : Int) := by rw [IntKind.wrap_i64] <;> omega
          have E2 : IntKind.i64.wrap ((x1 : Int) * 8 + (x2 : Int) * 4 + (x3 : Int) * 2 + x4) = (col : Int) := by rw [IntKind.wrap_i64] <;> omega
          have E3 : IntKind.i64.wrap (16 * (row : Int) + col) = (i1 : Int) := by rw [IntKind.wrap_i64] <;> omega
          have row3 : row ≤ 3 := by omega
          have col15 : col ≤ 15 := by omega
          have i63 : i1 < 64 := by omega
          have i63' : (i1 : Int) < 64 := by omega
          have i0 : (0 : Int) ≤ i1 := by omega
          have ESJ : Hid (sidx ee k p = i1) := Hid.mk (by rw [ESI.out, hi1, hrow, hcol])
          have cs : wr.cell? ⟨gs, n * 64 + i1, none⟩ = some (.int .u8 (S.getD (n * 64 + i1) 0).toNat) :=
            (((AS4.keep kw).keep KX).cell _).trans (HSC.out _ (by omega))
          have ESW : Hid (sval ee k n = S.getD (n * 64 + i1) 0) := Hid.mk (by rw [ESV.out, ← HP.out, ESJ.out, Nat.mul_comm 64 n])
          generalize S.getD (n * 64 + i1) 0 = y at *
          have y8 : (y.toNat : Int) ≤ 255 := by have := y.toNat_lt; omega
          clear hrow hcol hi1 AX ESI
          have hownx := hown.keep KX
          have kwx := kw.trans KX
          have hkl : ((fkk ee k n).map cb).length = 4 * n := by rw [List.length_map, fkk_length]
          have HK := Hid.mk hkl
          clear hkl
          go_wp2_with (at_builtin; refine wpList_app (by rfl) _ _ _ (by rfl) Try.underlying27 inf5 rfl w4.heap.size (hownx.alloc _) ((Own.lit (e := 5) (B := wr.heap.size) (w := wr) [.int .u8 ((y.toNat : Int) / 8 % 2), .int .u8 ((y.toNat : Int) / 4 % 2), .int .u8 ((y.toNat : Int) / 2 % 2), .int .u8 ((y.toNat : Int) % 2)] (Nat.le_refl _) (by simp [maxLen])).sl) (by simp [Value.oneCell']) (by rfl) (by rfl) (by rw [HK.out]; simp [maxLen]; omega) (by rw [HK.out]; simp; omega) (by have := kwx.size; simp; omega) ?_; intro v' w' hown' hgr hob)
          rw [← four_cb, ← List.map_append, ← ESW.out, ← fkk_succ] at hown'
          go_roundw
          case rel => exact ⟨n + 1, by omega, by go_num, hown', (kwx.alloc _).grown hgr (fun q hq => (hownx.lt q hq).1)⟩
          case measure => simp [intOf]; omega
    · have hlt' : ¬ (n : Int) < 8 := by omega
      have : n = 8 := by omega
      subst this
      have hfl := fkk_length ee k 8
      go_wp2_with fail
      refine (tableP_c _).mono ?_
      rintro e y1 ⟨v5, rfl, o5, k5⟩
      have CH := fun W (hk : Keep y1 W) => choose_c _ v5 _ tP W ((hown.bs.keep k5).keep hk) (o5.sl.keep hk) (by rw [hfl]; exact tP_ok) (by decide)
      go_wp2_with fail
      refine (CH _ (Keep.refl _)).mono ?_
      rintro e y2 ⟨v6, rfl, o6, k6⟩
      go_wp2
      go_ret
      have KK := (K4.trans kw).trans k5
      exact ⟨_, rfl, by rw [ED.out]; exact o6.mono KK.size, KK.trans k6⟩
end Go.Proofs.Qxb6500769a
