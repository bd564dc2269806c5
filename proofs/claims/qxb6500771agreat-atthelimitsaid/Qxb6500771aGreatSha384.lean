/- digestm.sha384. -/
import Derived.Test.Qxb6500771aGreatSha256
import Derived.Deep.Quiet
namespace Go.Proofs.Qxb6500771aGreat
open Go.RowKit Go.Qm
set_option linter.unusedVariables false
set_option linter.unusedSimpArgs false
attribute [local go_sem ↓] Go.wp_at_zero Go.wp_at_succ

theorem s124 : (Tryz.prog.info? 161).map (·.size) = some 8 := by kernel_rfl
theorem z124 : (Tryz.prog.info? 161).map (·.zero) = some (some (.agg (List.replicate 8 (Value.int .u64 0)).toArray)) := by kernel_rfl
def wbe384 (p : List UInt8) (q i : Nat) : Int := ((num ((p.drop (q + 8 * i)).take 8) : Nat) : Int)
def sc384 (p : List UInt8) (q : Nat) (k : Nat) : List Int := (List.range k).map (wbe384 p q)
theorem sc384_length (p : List UInt8) (q k : Nat) : (sc384 p q k).length = k := by simp [sc384]
theorem sc384_succ (p : List UInt8) (q k : Nat) : sc384 p q (k + 1) = sc384 p q k ++ [wbe384 p q k] := by simp [sc384, List.range_succ]
def sg0384 (x : Int) : Int := xo64 (xo64 (rr64I x 1) (rr64I x 8)) (x / 128)
def sg1384 (x : Int) : Int := xo64 (xo64 (rr64I x 19) (rr64I x 61)) (x / 64)
def w384 (k : Nat) (L : List Int) : List Int := L ++ [wr64 (wr64 (wr64 (sg1384 (gt L (k + 14)) + gt L (k + 9)) + sg0384 (gt L (k + 1))) + gt L k)]
theorem w384_length (L0 : List Int) (h : L0.length = 16) (k : Nat) : (it w384 L0 k).length = k + 16 := by
  induction k with
  | zero => simp [it, h]
  | succ k ih => simp [it, w384, ih]
def W384 (p : List UInt8) (q : Nat) : List Int := it w384 (sc384 p q 16) 64
def t1384 (L : List Int) (t : Nat) (e f g h : Int) : Int := wr64 (wr64 (wr64 (wr64 (h + xo64 (xo64 (rr64I e 14) (rr64I e 18)) (rr64I e 41)) + xo64 (an64 e f) (an64 (no64 e) g)) + gt k512T t) + gt L t)
def t2384 (a b c : Int) : Int := wr64 (xo64 (xo64 (rr64I a 28) (rr64I a 34)) (rr64I a 39) + xo64 (xo64 (an64 a b) (an64 a c)) (an64 b c))
def v384 (L : List Int) (t : Nat) : List Int → List Int
  | [a, b, c, d, e, f, g, h] => [wr64 (t1384 L t e f g h + t2384 a b c), a, b, c, wr64 (d + t1384 L t e f g h), e, f, g]
  | l => l
theorem v384_length (L : List Int) (H : List Int) (h : H.length = 8) (k : Nat) : (it (v384 L) H k).length = 8 := by
  induction k with
  | zero => simp [it, h]
  | succ k ih => obtain ⟨a, b, c, d, e, f, g, i, hV⟩ := eight ih; rw [it, hV]; rfl
/-- The first k sums of two lists, the rest of the first. -/
def ad384 (H V : List Int) (k : Nat) : List Int := (List.range k).map (fun i => wr64 (gt H i + gt V i)) ++ H.drop k
theorem ad384_length (H V : List Int) (h : H.length = 8) (k : Nat) (hk : k ≤ 8) : (ad384 H V k).length = 8 := by simp [ad384, h]; omega
theorem ad384_gt (H V : List Int) (h : H.length = 8) (k : Nat) (hk : k < 8) : gt (ad384 H V k) k = gt H k := by
  simp [gt, ad384, List.getElem?_append_right]
theorem ad384_set (H V : List Int) (h : H.length = 8) (k : Nat) (hk : k < 8) : ((ad384 H V k).map u64v).set k (u64v (wr64 (gt H k + gt V k))) = (ad384 H V (k + 1)).map u64v := by
  rw [← List.map_set]
  congr 1
  unfold ad384
  rw [List.set_append_right _ _ (by simp), List.drop_eq_getElem_cons (by omega)]
  simp only [List.length_map, List.length_range, Nat.sub_self, List.set_cons_zero]
  rw [List.range_succ, List.map_append, List.append_assoc]
  rfl
def blk384 (p : List UInt8) (q : Nat) (H : List Int) : List Int := ad384 H (it (v384 (W384 p q)) H 80) 8
def st384 (p : List UInt8) (j : Nat) : List Int := it (fun j H => blk384 p (128 * j) H) [14680500436340154072, 7105036623409894663, 10473403895298186519, 1526699215303891257, 7436329637833083697, 10282925794625328401, 15784041429090275239, 5167115440072839076] j
theorem st384_length (p : List UInt8) (j : Nat) : (st384 p j).length = 8 := by
  induction j with
  | zero => rfl
  | succ j ih => show (ad384 _ _ 8).length = 8; exact ad384_length _ _ ih 8 (by omega)
theorem st384_in (p : List UInt8) (j : Nat) : ∀ x ∈ st384 p j, 0 ≤ x ∧ x < 18446744073709551616 := by
  cases j with
  | zero => intro x hx; simp [st384, it] at hx; omega
  | succ j =>
    intro x hx
    have hx' : x ∈ ad384 (st384 p j) (it (v384 (W384 p (128 * j))) (st384 p j) 80) 8 := hx
    unfold ad384 at hx'
    rw [List.drop_of_length_le (by rw [st384_length]; omega)] at hx'
    simp only [List.append_nil, List.mem_map] at hx'
    obtain ⟨i, -, rfl⟩ := hx'
    simp only [wr64, w64]
    omega
def out384 (H : List Int) (k : Nat) : List UInt8 := ((List.range k).map (fun i => dig (gt H i).toNat 8)).flatten
theorem out384_succ (H : List Int) (k : Nat) : out384 H (k + 1) = out384 H k ++ dig (gt H k).toNat 8 := by simp [out384, List.range_succ]
theorem out384_length (H : List Int) (k : Nat) : (out384 H k).length = 8 * k := by
  induction k with
  | zero => rfl
  | succ k ih => rw [out384_succ, List.length_append, ih, dig_length]; omega
def sha384 (l : List UInt8) : List UInt8 := out384 (st384 (pad128 l false) ((pad128 l false).length / 128)) 6
set_option maxRecDepth 1400 in
set_option maxHeartbeats 6000000 in
theorem sha384_c (v : Value) (l : List UInt8) (w : World) (h : Bs w v l) (hl : l.length ≤ 4000000) : Calls Tryz.prog 106 #[v] w fun e w' => ∃ v', e = .returned v' ∧ Own w.heap.size 5 w' v' ((sha384 l).map cb) ∧ Keep w w' := by
  go_enter Tryz.func106, Tryz.ntmps106
  go_wp2_with fail
  refine (padded128_c v l false w h hl).mono ?_
  rintro e wp ⟨pv, rfl, op, kp⟩
  obtain ⟨m, hm0, hm⟩ := zs128_dvd l.length
  rw [← pad128_length l false] at hm
  have hz := zs128_lt l.length
  have hpl : (pad128 l false).length ≤ 4000400 := by rw [pad128_length]; omega
  have hmd : sha384 l = out384 (st384 (pad128 l false) m) 6 := by unfold sha384; rw [show (pad128 l false).length / 128 = m by omega]
  have HMD := Hid.mk hmd
  clear hmd
  generalize pad128 l false = p at *
  have HM := Hid.mk hm
  clear hm
  go_wp2_with fail
  refine (k512_c wp).mono ?_
  rintro e wt ⟨rfl, kt⟩
  have hk64 : (k512T.map u64v).length = 80 := by rw [List.length_map, k512T_length]
  have HK64 := Hid.mk hk64
  clear hk64
  go_wp2_with (first
    | (refine wpList_alloc_z (by rfl) 159 (by rfl) (List.replicate 80 (.int .u64 0)) z122 ?_)
    | (refine wpList_store_row (by rfl) 159 (.tmp 4) (.tmp 23) (by rfl) wt.heap.size (k512T.map u64v).toArray (by rfl) (by rfl) 159 _ (Arr.new wt 159 _) (by rw [List.size_toArray, HK64.out]; exact s122) (by simp [HK64.out]) k512T_one ?_))
  have AK0 := (Arr.new wt 159 (List.replicate 80 (Value.int .u64 0))).row (k512T.map u64v)
  have KK0 : Keep wt ((wt.alloc (.cells (List.replicate 80 (Value.int .u64 0)).toArray 159)).setRow wt.heap.size (k512T.map u64v).toArray) := ((Keep.refl wt).alloc _).setRow (Nat.le_refl _) _
  have hsz : ((wt.alloc (.cells (List.replicate 80 (Value.int .u64 0)).toArray 159)).setRow wt.heap.size (k512T.map u64v).toArray).heap.size = wt.heap.size + 1 := by rw [setRow_size]; exact World.size_alloc _ _
  have AH0 : Arr (((wt.alloc (.cells (List.replicate 80 (Value.int .u64 0)).toArray 159)).setRow wt.heap.size (k512T.map u64v).toArray).alloc (.cells #[.int .u64 14680500436340154072, .int .u64 7105036623409894663, .int .u64 10473403895298186519, .int .u64 1526699215303891257, .int .u64 7436329637833083697, .int .u64 10282925794625328401, .int .u64 15784041429090275239, .int .u64 5167115440072839076] 161)) (wt.heap.size + 1) 161 ((st384 p 0).map u64v) := by
    have := heap_alloc_new ((wt.alloc (.cells (List.replicate 80 (Value.int .u64 0)).toArray 159)).setRow wt.heap.size (k512T.map u64v).toArray) (.cells #[.int .u64 14680500436340154072, .int .u64 7105036623409894663, .int .u64 10473403895298186519, .int .u64 1526699215303891257, .int .u64 7436329637833083697, .int .u64 10282925794625328401, .int .u64 15784041429090275239, .int .u64 5167115440072839076] 161)
    rw [hsz] at this; exact this
  have KH0 := KK0.alloc (.cells #[.int .u64 14680500436340154072, .int .u64 7105036623409894663, .int .u64 10473403895298186519, .int .u64 1526699215303891257, .int .u64 7436329637833083697, .int .u64 10282925794625328401, .int .u64 15784041429090275239, .int .u64 5167115440072839076] 161)
  have AK1 := AK0.keep ((Keep.refl _).alloc (.cells #[.int .u64 14680500436340154072, .int .u64 7105036623409894663, .int .u64 10473403895298186519, .int .u64 1526699215303891257, .int .u64 7436329637833083697, .int .u64 10282925794625328401, .int .u64 15784041429090275239, .int .u64 5167115440072839076] 161))
  have hpb := op.bs.keep (kt.trans KH0)
  have K0 := kt.trans KH0
  have HS5 : Hid (wp.heap.size ≤ wt.heap.size + 1) := Hid.mk (by have := kt.size; omega)
  obtain ⟨g5, hg5⟩ : ∃ g, g = wt.heap.size + 1 := ⟨_, rfl⟩
  rw [← hg5] at AH0 HS5 ⊢
  have H45 : Hid (wt.heap.size ≠ g5) := Hid.mk (by omega)
  clear hg5 hsz
  obtain ⟨g4, hg4⟩ : ∃ g, g = wt.heap.size := ⟨_, rfl⟩
  have AK2 := AK1
  rw [← hg4] at H45 ⊢
  have AK3 : Arr (((wt.alloc (.cells (List.replicate 80 (Value.int .u64 0)).toArray 159)).setRow g4 (k512T.map u64v).toArray).alloc (.cells #[.int .u64 14680500436340154072, .int .u64 7105036623409894663, .int .u64 10473403895298186519, .int .u64 1526699215303891257, .int .u64 7436329637833083697, .int .u64 10282925794625328401, .int .u64 15784041429090275239, .int .u64 5167115440072839076] 161)) g4 159 (k512T.map u64v) := by rw [hg4]; exact AK1
  have AH1 : Arr (((wt.alloc (.cells (List.replicate 80 (Value.int .u64 0)).toArray 159)).setRow g4 (k512T.map u64v).toArray).alloc (.cells #[.int .u64 14680500436340154072, .int .u64 7105036623409894663, .int .u64 10473403895298186519, .int .u64 1526699215303891257, .int .u64 7436329637833083697, .int .u64 10282925794625328401, .int .u64 15784041429090275239, .int .u64 5167115440072839076] 161)) g5 161 ((st384 p 0).map u64v) := by rw [hg4]; exact AH0
  have K1 : Keep wp (((wt.alloc (.cells (List.replicate 80 (Value.int .u64 0)).toArray 159)).setRow g4 (k512T.map u64v).toArray).alloc (.cells #[.int .u64 14680500436340154072, .int .u64 7105036623409894663, .int .u64 10473403895298186519, .int .u64 1526699215303891257, .int .u64 7436329637833083697, .int .u64 10282925794625328401, .int .u64 15784041429090275239, .int .u64 5167115440072839076] 161)) := by rw [hg4]; exact K0
  clear AK0 AK1 AK2 AH0 K0 KH0 KK0 hpb hg4
  have hpb := op.bs
  obtain ⟨pa, pc, rfl, hpc, hpm, -⟩ := hpb.form
  unfold maxLen at hpm
  go_loopw [6] (fun ov wr => ∃ (j : Nat) (H : List Int), j ≤ m ∧ H = st384 p j ∧ ov = .int .i64 (128 * j : Nat) ∧ Arr wr g4 159 (k512T.map u64v) ∧ Arr wr g5 161 (H.map u64v) ∧ Keep wp wr) (fun o _ => p.length - (intOf o).toNat)
  case atStart => exact ⟨0, _, by omega, rfl, rfl, AK3, AH1, K1⟩
  case round =>
    clear AK3 AH1 K1
    obtain ⟨j, H, hj, hs, rfl, AK, AH, kw⟩ := hrel
    have hHl : H.length = 8 := by rw [hs]; exact st384_length p j
    have hHin : ∀ x ∈ H, 0 ≤ x ∧ x < 18446744073709551616 := by rw [hs]; exact st384_in p j
    have HS := Hid.mk hs
    have HHL := Hid.mk hHl
    have HIN := Hid.mk hHin
    clear hs hHl hHin
    obtain ⟨q, hq⟩ : ∃ q, q = 128 * j := ⟨_, rfl⟩
    rw [← hq]
    by_cases hlt : j < m
    · have i0 : (q : Int) < p.length := by have := HM.out; omega
      have hqb : q + 128 ≤ p.length := by have := HM.out; omega
      have HQ := Hid.mk hq
      clear hq
      go_wp2_with (refine wpList_alloc_z (by rfl) 159 (by rfl) (List.replicate 80 (.int .u64 0)) z122 ?_)
      have AW0 : Arr (wr.alloc (.cells (List.replicate 80 (Value.int .u64 0)).toArray 159)) wr.heap.size 159 (fill64 (sc384 p q 0) 80) := Arr.new wr 159 (List.replicate 80 (.int .u64 0))
      have KA := (Keep.refl wr).alloc (.cells (List.replicate 80 (Value.int .u64 0)).toArray 159)
      have AH1 := AH.keep KA
      have AK1 := AK.keep KA
      have K1 := kw.trans KA
      have hne : g4 ≠ wr.heap.size ∧ g5 ≠ wr.heap.size := by have := AH.lt; have := AK.lt; omega
      have hw7 := kw.size
      obtain ⟨g7, hg7⟩ : ∃ g7, g7 = wr.heap.size := ⟨_, rfl⟩
      rw [← hg7] at AW0 hne hw7 ⊢
      have HN := Hid.mk hne
      have HW7 := Hid.mk hw7
      clear hg7 KA AH AK hne hw7
      go_loopw [8] (fun iv wx => ∃ k : Nat, k ≤ 16 ∧ iv = .int .i64 k ∧ Arr wx g4 159 (k512T.map u64v) ∧ Arr wx g5 161 (H.map u64v) ∧ Arr wx g7 159 (fill64 (sc384 p q k) 80) ∧ Keep wp wx) (fun i _ => 16 - (intOf i).toNat)
      case atStart => exact ⟨0, by omega, rfl, AK1, AH1, AW0, K1⟩
      case round =>
        clear AW0 AH1 AK1 K1
        obtain ⟨k, hk, rfl, AK, AH, AW, kx⟩ := hrel
        by_cases hlt2 : k < 16
        · have j0 : (k : Int) < 16 := by omega
          have j00 : (k : Int) < 80 := by omega
          obtain ⟨r1, hr1⟩ : ∃ r, r = 8 * k := ⟨_, rfl⟩
          obtain ⟨r2, hr2⟩ : ∃ r, r = q + r1 := ⟨_, rfl⟩
          have f1 : IntKind.i64.wrap (8 * (k : Int)) = (r1 : Int) := by rw [IntKind.wrap_i64] <;> omega
          have f2 : IntKind.i64.wrap ((q : Int) + (r1 : Int)) = (r2 : Int) := by rw [IntKind.wrap_i64] <;> omega
          have f3 : IntKind.i64.wrap ((r2 : Int) + 8) = (r2 : Int) + 8 := by rw [IntKind.wrap_i64]; omega
          have i1 : (r2 : Int) + 8 ≤ p.length := by omega
          have i2 : (r2 : Int) ≤ pc := by omega
          have i3 : (r2 : Int) + 8 ≤ pc := by omega
          have i4 : ¬ pc = r2 := by omega
          have hpart := (hpb.keep kx).part (i := r2) (j := r2 + 8) (by omega) (by omega) (pa.map (·.add r2)) (fun _ => rfl)
          rw [show r2 + 8 - r2 = 8 by omega] at hpart
          have hw : wbe384 p q k = ((num ((p.drop r2).take 8) : Nat) : Int) := by rw [hr2, hr1]; rfl
          have hn4 : ((p.drop r2).take 8).length = 8 := by simp; omega
          have HW := Hid.mk hw
          have hsl := sc384_length p q k
          have hc := AW.cell k
          rw [show (fill64 (sc384 p q k) 80)[k]? = some (.int .u64 0) by have := fill64_next (L := sc384 p q k) (n := 80) (by omega); rwa [hsl] at this] at hc
          have HSL := Hid.mk hsl
          clear hr1 hr2 hw hsl
          go_wp2_with fail
          refine (number_c _ _ _ hpart (by omega)).mono ?_
          rintro e w2 ⟨rfl, k2⟩
          have AW2 := AW.keep k2
          have AH2 := AH.keep k2
          have AK2 := AK.keep k2
          have kx2 := kx.trans k2
          have hc2 := k2.cell hc
          have hf := AW2.frozen k
          generalize num ((p.drop r2).take 8) = nn at *
          go_wp2_with fail
          go_roundw
          case rel =>
            refine ⟨k + 1, by omega, by go_num, ?_, ?_, ?_, kx2.setCell HW7.out _⟩
            · exact AK2.kept (grown_set (grown_refl _ _) k _) HN.out.1
            · exact AH2.kept (grown_set (grown_refl _ _) k _) HN.out.2
            · have := AW2.set k (.int .u64 ((nn : Int)))
              have e := fill64_set (L := sc384 p q k) (n := 80) (by rw [HSL.out]; omega) (wbe384 p q k)
              rw [HSL.out] at e
              rw [sc384_succ, ← e, HW.out]
              exact this
          case measure => simp [intOf]; omega
        · have j0 : ¬ (k : Int) < 16 := by omega
          have hk16 : k = 16 := by omega
          subst hk16
          go_wp2_with fail
          go_loopw [9] (fun iv wx => ∃ k : Nat, k ≤ 64 ∧ iv = .int .i64 (k + 16 : Nat) ∧ Arr wx g4 159 (k512T.map u64v) ∧ Arr wx g5 161 (H.map u64v) ∧ Arr wx g7 159 (fill64 (it w384 (sc384 p q 16) k) 80) ∧ Keep wp wx) (fun i _ => 80 - (intOf i).toNat)
          case atStart => exact ⟨0, by omega, rfl, AK, AH, AW, kx⟩
          case round =>
            clear AK AH AW kx
            obtain ⟨k, hk, rfl, AK, AH, AW, kx⟩ := hrel
            obtain ⟨t, ht⟩ : ∃ t, t = k + 16 := ⟨_, rfl⟩
            rw [← ht]
            have hLl := w384_length (sc384 p q 16) (sc384_length p q 16) k
            obtain ⟨L, hL⟩ : ∃ L, L = it w384 (sc384 p q 16) k := ⟨_, rfl⟩
            rw [← hL] at hLl AW
            by_cases hlt3 : k < 64
            · have j1 : (t : Int) < 80 := by omega
              obtain ⟨t15, ht15⟩ : ∃ r, r = k + 1 := ⟨_, rfl⟩
              obtain ⟨t2, ht2⟩ : ∃ r, r = k + 14 := ⟨_, rfl⟩
              obtain ⟨t7, ht7⟩ : ∃ r, r = k + 9 := ⟨_, rfl⟩
              have f1 : IntKind.i64.wrap ((t : Int) - 15) = (t15 : Int) := by rw [IntKind.wrap_i64] <;> omega
              have f2 : IntKind.i64.wrap ((t : Int) - 2) = (t2 : Int) := by rw [IntKind.wrap_i64] <;> omega
              have f3 : IntKind.i64.wrap ((t : Int) - 7) = (t7 : Int) := by rw [IntKind.wrap_i64] <;> omega
              have f4 : IntKind.i64.wrap ((t : Int) - 16) = (k : Int) := by rw [IntKind.wrap_i64] <;> omega
              have b1 : (t15 : Int) < 80 := by omega
              have b2 : (t2 : Int) < 80 := by omega
              have b3 : (t7 : Int) < 80 := by omega
              have b4 : (k : Int) < 80 := by omega
              have c1 := AW.cell t15
              rw [fill64_get (by omega)] at c1
              have c2 := AW.cell t2
              rw [fill64_get (by omega)] at c2
              have c3 := AW.cell t7
              rw [fill64_get (by omega)] at c3
              have c4 := AW.cell k
              rw [fill64_get (by omega)] at c4
              have c5 := AW.cell t
              rw [show (fill64 L 80)[t]? = some (.int .u64 0) by have := fill64_next (L := L) (n := 80) (by omega); rwa [hLl, ← ht] at this] at c5
              have c6 := AW.frozen t
              have H15 := Hid.mk ht15
              have H2 := Hid.mk ht2
              have H7 := Hid.mk ht7
              have HTT := Hid.mk ht
              have HL := Hid.mk hL
              have HLL := Hid.mk hLl
              have n3 : Hid (t7 ≠ t ∧ k ≠ t) := Hid.mk (by omega)
              clear ht15 ht2 ht7 ht hL hLl
              go_wp2_with fail
              go_quiet ((go_at_call 125; exact Calls.quiet_of_same (rotr64I_c _ _ _ (by decide) (by decide))))
              go_wp2_with fail
              have hcy : ∀ a, (wr.drewN nq).cell? a = wr.cell? a := fun _ => rfl
              have hfy : ∀ a, (wr.drewN nq).frozen? a = wr.frozen? a := fun _ => rfl
              replace AK := AK.drewN nq
              replace AH := AH.drewN nq
              replace AW := AW.drewN nq
              replace kx := kx.drewN nq
              rw [← hcy] at c1 c2 c3 c4 c5
              rw [← hfy] at c6
              clear hcy hfy
              generalize wr.drewN nq = wy at *
              go_quiet ((go_at_call 125; exact Calls.quiet_of_same (rotr64I_c _ _ _ (by decide) (by decide))))
              go_wp2_with fail
              have hcy : ∀ a, (wy.drewN nq).cell? a = wy.cell? a := fun _ => rfl
              have hfy : ∀ a, (wy.drewN nq).frozen? a = wy.frozen? a := fun _ => rfl
              replace AK := AK.drewN nq
              replace AH := AH.drewN nq
              replace AW := AW.drewN nq
              replace kx := kx.drewN nq
              rw [← hcy] at c1 c2 c3 c4 c5
              rw [← hfy] at c6
              clear hcy hfy
              generalize wy.drewN nq = wz at *
              go_region_held3 (fun w' => w'.cell? ⟨g7, t7, none⟩ = some (.int .u64 (gt L t7)) ∧ w'.cell? ⟨g7, k, none⟩ = some (.int .u64 (gt L k)))
                (first | assumption | exact ⟨c3, c4⟩ | exact ⟨cell_set_ne AW c3 n3.out.1, cell_set_ne AW c4 n3.out.2⟩)
                (fail)
              all_goals
                go_wp2_with fail
                go_roundw
                case rel =>
                  refine ⟨k + 1, by omega, by have := HTT.out; go_num, ?_, ?_, ?_, ?_⟩
                  · exact Arr.drew (AK.kept (grown_set (grown_refl _ _) t _) HN.out.1)
                  · exact Arr.drew (AH.kept (grown_set (grown_refl _ _) t _) HN.out.2)
                  · have e := fill64_set (L := L) (n := 80) (by rw [HLL.out]; omega) (wr64 (wr64 (wr64 (sg1384 (gt L t2) + gt L t7) + sg0384 (gt L t15)) + gt L k))
                    rw [HLL.out, ← HTT.out] at e
                    have := AW.set t (.int .u64 (wr64 (wr64 (wr64 (sg1384 (gt L t2) + gt L t7) + sg0384 (gt L t15)) + gt L k)))
                    rw [e] at this
                    rw [it, ← HL.out, w384, ← H15.out, ← H2.out, ← H7.out]
                    exact this
                  · exact (kx.setCell HW7.out _).drew
                case measure => have := HTT.out; simp [intOf]; omega
            · have j1 : ¬ (t : Int) < 80 := by omega
              have hk64 : k = 64 := by omega
              subst hk64
              have hLW : L = W384 p q := hL
              have HLW := Hid.mk hLW
              have HLL := Hid.mk hLl
              clear hLW hL ht hLl
              have hH8 : (H.map u64v).length = 8 := by rw [List.length_map, HHL.out]
              have HH8 := Hid.mk hH8
              clear hH8
              go_wp2_with (first
                | (refine wpList_load_row (by rfl) 161 (.tmp 5) (by rfl) g5 (by rfl) 161 (H.map u64v).toArray (0, 0) _ AH Tryz.underlying161 rfl (by rw [List.size_toArray, HH8.out]; exact s124) ?_)
                | (refine wpList_alloc_z (by rfl) 161 (by rfl) (List.replicate 8 (.int .u64 0)) z124 ?_)
                | (refine wpList_store_row (by rfl) 161 (.tmp 12) (.tmp 102) (by rfl) wr.heap.size (H.map u64v).toArray (by rfl) (by rfl) 161 _ (Arr.new wr 161 _) (by rw [List.size_toArray, HH8.out]; exact s124) (by simp [HHL.out]) (u64_one _) ?_))
              have AV0 := (Arr.new wr 161 (List.replicate 8 (Value.int .u64 0))).row (H.map u64v)
              have KV : Keep wr ((wr.alloc (.cells (List.replicate 8 (Value.int .u64 0)).toArray 161)).setRow wr.heap.size (H.map u64v).toArray) := ((Keep.refl wr).alloc _).setRow (Nat.le_refl _) _
              have AK1 := AK.keep KV
              have AH1 := AH.keep KV
              have AW1 := AW.keep KV
              have K1 := kx.trans KV
              have hne : g4 ≠ wr.heap.size ∧ g5 ≠ wr.heap.size ∧ g7 ≠ wr.heap.size := by have := AH.lt; have := AK.lt; have := AW.lt; omega
              have hw12 := kx.size
              obtain ⟨g12, hg12⟩ : ∃ g, g = wr.heap.size := ⟨_, rfl⟩
              rw [← hg12] at AV0 AK1 AH1 AW1 K1 hne hw12 ⊢
              have HN2 := Hid.mk hne
              have HW12 := Hid.mk hw12
              clear hg12 KV AK AH AW hne hw12
              go_loopw [13] (fun iv wx => ∃ (k : Nat) (V : List Int), k ≤ 80 ∧ V = it (v384 L) H k ∧ iv = .int .i64 k ∧ Arr wx g4 159 (k512T.map u64v) ∧ Arr wx g5 161 (H.map u64v) ∧ Arr wx g7 159 (fill64 L 80) ∧ Arr wx g12 161 (V.map u64v) ∧ Keep wp wx) (fun i _ => 80 - (intOf i).toNat)
              case atStart => exact ⟨0, H, by omega, rfl, rfl, AK1, AH1, AW1, AV0, K1⟩
              case round =>
                clear AV0 AK1 AH1 AW1 K1 kx
                obtain ⟨k, V, hk, hV, rfl, AK, AH, AW, AV, kx⟩ := hrel
                have hVl : V.length = 8 := by rw [hV]; exact v384_length L H HHL.out k
                have HV := Hid.mk hV
                clear hV
                by_cases hlt4 : k < 80
                · have j2 : (k : Int) < 80 := by omega
                  obtain ⟨v0, v1, v2, v3, v4, v5, v6, v7, rfl⟩ := eight hVl
                  clear hVl
                  have cw := AW.cell k
                  rw [fill64_get (by rw [HLL.out]; omega)] at cw
                  have ck := AK.cell k
                  rw [get64 (by rw [k512T_length]; exact hlt4)] at ck
                  have c0 := AV.cell 0
                  have c1 := AV.cell 1
                  have c2 := AV.cell 2
                  have c3 := AV.cell 3
                  have c4 := AV.cell 4
                  have c5 := AV.cell 5
                  have c6 := AV.cell 6
                  have c7 := AV.cell 7
                  simp only [List.map_cons, List.map_nil, u64v, List.getElem?_cons_zero, List.getElem?_cons_succ] at c0 c1 c2 c3 c4 c5 c6 c7
                  go_wp2_with fail
                  go_quiet (fail)
                  go_wp2_with fail
                  have hcy : ∀ a, (wr.drewN nq).cell? a = wr.cell? a := fun _ => rfl
                  have hfy : ∀ a, (wr.drewN nq).frozen? a = wr.frozen? a := fun _ => rfl
                  replace AK := AK.drewN nq
                  replace AH := AH.drewN nq
                  replace AW := AW.drewN nq
                  replace AV := AV.drewN nq
                  replace kx := kx.drewN nq
                  rw [← hcy] at cw ck c0 c1 c2 c3 c4 c5 c6 c7
                  clear hcy hfy
                  generalize wr.drewN nq = wy at *
                  go_quiet ((go_at_call 125; exact Calls.quiet_of_same (rotr64I_c _ _ _ (by decide) (by decide))))
                  go_wp2_with fail
                  have hcy : ∀ a, (wy.drewN nq).cell? a = wy.cell? a := fun _ => rfl
                  have hfy : ∀ a, (wy.drewN nq).frozen? a = wy.frozen? a := fun _ => rfl
                  replace AK := AK.drewN nq
                  replace AH := AH.drewN nq
                  replace AW := AW.drewN nq
                  replace AV := AV.drewN nq
                  replace kx := kx.drewN nq
                  rw [← hcy] at cw ck c0 c1 c2 c3 c4 c5 c6 c7
                  clear hcy hfy
                  generalize wy.drewN nq = wz at *
                  go_quiet ((go_at_call 125; exact Calls.quiet_of_same (rotr64I_c _ _ _ (by decide) (by decide))))
                  have hcy : ∀ a, (wz.drewN nq).cell? a = wz.cell? a := fun _ => rfl
                  have hfy : ∀ a, (wz.drewN nq).frozen? a = wz.frozen? a := fun _ => rfl
                  replace AK := AK.drewN nq
                  replace AH := AH.drewN nq
                  replace AW := AW.drewN nq
                  replace AV := AV.drewN nq
                  replace kx := kx.drewN nq
                  rw [← hcy] at cw ck c0 c1 c2 c3 c4 c5 c6 c7
                  clear hcy hfy
                  generalize wz.drewN nq = wu at *
                  go_wp2_with (refine wpList_store_rowM (by rfl) 161 (.tmp 12) (.tmp 184) (by rfl) g12 _ (by rfl) (by rfl) 8 161 _ AV s124 (by rfl) (by rfl) (by simp [Value.oneCell']) ?_)
                  go_roundw
                  case rel =>
                    refine ⟨k + 1, v384 L k [v0, v1, v2, v3, v4, v5, v6, v7], by omega, by rw [it, ← HV.out], by go_num, ?_, ?_, ?_, ?_, ?_⟩
                    · exact AK.kept (grown_setRow (grown_refl _ _) _) HN2.out.1
                    · exact AH.kept (grown_setRow (grown_refl _ _) _) HN2.out.2.1
                    · exact AW.kept (grown_setRow (grown_refl _ _) _) HN2.out.2.2
                    · have e := AV.row ((v384 L k [v0, v1, v2, v3, v4, v5, v6, v7]).map u64v)
                      simpa [v384, t1384, t2384, u64v, w64] using e
                    · exact kx.setRow HW12.out _
                  case measure => simp [intOf]; omega
                · have j2 : ¬ (k : Int) < 80 := by omega
                  have hk64 : k = 80 := by omega
                  subst hk64
                  have HVL := Hid.mk hVl
                  clear hVl
                  go_wp2_with fail
                  go_loopw [18] (fun iv wx => ∃ k : Nat, k ≤ 8 ∧ iv = .int .i64 k ∧ Arr wx g4 159 (k512T.map u64v) ∧ Arr wx g5 161 ((ad384 H V k).map u64v) ∧ Arr wx g12 161 (V.map u64v) ∧ Keep wp wx) (fun i _ => 8 - (intOf i).toNat)
                  case atStart => exact ⟨0, by omega, rfl, AK, by simpa [ad384] using AH, AV, kx⟩
                  case round =>
                    clear AK AH AW AV kx
                    obtain ⟨k, hk, rfl, AK, AH, AV, kx⟩ := hrel
                    by_cases hlt5 : k < 8
                    · have j3 : (k : Int) < 8 := by omega
                      have ch := AH.cell k
                      rw [get64 (by rw [ad384_length H V HHL.out k hk]; exact hlt5), ad384_gt H V HHL.out k hlt5] at ch
                      have cv := AV.cell k
                      rw [get64 (by rw [HVL.out]; exact hlt5)] at cv
                      have fz := AH.frozen k
                      go_wp2_with fail
                      go_region
                      all_goals
                        go_wp2_with fail
                        go_roundw
                        case rel =>
                          refine ⟨k + 1, by omega, by go_num, ?_, ?_, ?_, ?_⟩
                          · exact Arr.drew (AK.kept (grown_set (grown_refl _ _) k _) H45.out)
                          · rw [← ad384_set H V HHL.out k hlt5]; exact AH.set k _
                          · exact Arr.drew (AV.kept (grown_set (grown_refl _ _) k _) (Ne.symm HN2.out.2.1))
                          · exact (kx.setCell HS5.out _).drew
                        case measure => simp [intOf]; omega
                    · have j3 : ¬ (k : Int) < 8 := by omega
                      have hk8 : k = 8 := by omega
                      subst hk8
                      go_wp2_with fail
                      go_roundw
                      case rel =>
                        refine ⟨j + 1, blk384 p q H, by omega, by rw [HQ.out, HS.out]; rfl, by have := HQ.out; go_num, AK, ?_, kx⟩
                        unfold blk384
                        rw [← HLW.out, ← HV.out]
                        exact AH
                      case measure => have := HM.out; simp [intOf]; omega
    · have i0 : ¬ (q : Int) < p.length := by have := HM.out; omega
      have hjm : j = m := by omega
      subst hjm
      clear hq
      go_wp2_with fail
      have O0 : Own wp.heap.size 5 (wr.alloc (.cells #[] 5)) (.slice (some ⟨wr.heap.size, 0, none⟩) 0 0) ((out384 H 0).map cb) := Own.lit (B := wp.heap.size) (e := 5) (w := wr) [] kw.size (by simp)
      have KA := (Keep.refl wr).alloc (.cells #[] 5)
      have AH1 := AH.keep KA
      have K1 := kw.trans KA
      clear KA AH AK
      go_loopw [19, 20] (fun ov iv wx => ∃ k : Nat, k ≤ 6 ∧ iv = .int .i64 k ∧ Own wp.heap.size 5 wx ov ((out384 H k).map cb) ∧ Arr wx g5 161 (H.map u64v) ∧ Keep wp wx) (fun _ i _ => 6 - (intOf i).toNat)
      case atStart => exact ⟨0, by omega, rfl, O0, AH1, K1⟩
      case round =>
        clear O0 AH1 K1
        obtain ⟨k, hk, rfl, ow, AH, kx⟩ := hrel
        by_cases hlt5 : k < 6
        · have j0 : (k : Int) < 6 := by omega
          have j00 : (k : Int) < 8 := by omega
          have hc := AH.cell k
          rw [get64 (by rw [HHL.out]; omega)] at hc
          have hin := HIN.out (gt H k) (by unfold gt; rw [List.getD, List.getElem?_eq_getElem (by rw [HHL.out]; omega)]; exact List.getElem_mem _)
          obtain ⟨nk, hnk⟩ : ∃ nk : Nat, gt H k = (nk : Int) := ⟨(gt H k).toNat, by omega⟩
          have hnl : nk < 2 ^ 64 := by omega
          have HNK : Hid ((gt H k).toNat = nk) := Hid.mk (by omega)
          clear hin
          go_wp2_with fail
          refine (digits_c nk 8 _ hnl (by omega)).mono ?_
          rintro e w2 ⟨dv, rfl, o2, k2⟩
          rw [← HNK.out] at o2
          go_wp2_with fail
          refine (join_c _ _ (out384 H k) (dig (gt H k).toNat 8) _ (ow.bs.keep k2) o2.bs (by rw [out384_length, dig_length]; omega)).mono ?_
          rintro e w3 ⟨jv, rfl, o3, k3⟩
          go_wp2_with fail
          go_roundw
          case rel => exact ⟨k + 1, by omega, by go_num, by rw [out384_succ]; exact o3.mono (kx.trans k2).size, AH.keep (k2.trans k3), kx.trans (k2.trans k3)⟩
          case measure => simp [intOf]; omega
        · have j0 : ¬ (k : Int) < 6 := by omega
          have hk5 : k = 6 := by omega
          subst hk5
          go_wp2
          go_ret
          exact ⟨_, rfl, by rw [HMD.out, ← HS.out]; exact ow.mono kp.size, kp.trans kx⟩
end Go.Proofs.Qxb6500771aGreat
