/- digestm.sha256. -/
import Derived.Test.Qxb6500771aGreatSha1
import Derived.Deep.Quiet
namespace Go.Proofs.Qxb6500771aGreat
open Go.RowKit Go.Qm
set_option linter.unusedVariables false
set_option linter.unusedSimpArgs false
attribute [local go_sem ↓] Go.wp_at_zero Go.wp_at_succ

def rrI (x n : Int) : Int := rr x n.toNat
theorem rotrI_c (x n : Int) (w : World) (h0 : 0 ≤ n) (hn : n ≤ 32) : Calls Tryz.prog 123 #[.int .u32 x, .int .u64 n] w fun e w' => e = .returned (.int .u32 (rrI x n)) ∧ w' = w := by
  have h := rotr_c x n.toNat w (by omega)
  rw [show ((n.toNat : Nat) : Int) = n by omega] at h
  exact h
def rr64I (x n : Int) : Int := rr64 x n.toNat
theorem rotr64I_c (x n : Int) (w : World) (h0 : 0 ≤ n) (hn : n ≤ 64) : Calls Tryz.prog 125 #[.int .u64 x, .int .u64 n] w fun e w' => e = .returned (.int .u64 (rr64I x n)) ∧ w' = w := by
  have h := rotr64_c x n.toNat w (by omega)
  rw [show ((n.toNat : Nat) : Int) = n by omega] at h
  exact h
abbrev an64 (x y : Int) : Int := bits .and .u64 x y
abbrev xo64 (x y : Int) : Int := bits .xor .u64 x y
abbrev no64 (x : Int) : Int := bits .xor .u64 IntKind.u64.max x
abbrev wr64 (x : Int) : Int := IntKind.u64.wrap x
theorem w64 (x : Int) : IntKind.u64.wrap x = x % 18446744073709551616 := by simp [IntKind.wrap, IntKind.signed, IntKind.bits]
theorem wpList_store_rowM {P : Program} {ops : Array Oper} {rest : List Oper} {o : Oper} {a : Act} {w : World} {Q : Exit → Act → World → Prop} (hgd : o.guard = none) (ty : TypeId) (x y : Operand) (ho : o.op = .store ty x y)
    (g : Nat) (cells : Array Value) (hx : a.eval x = .pointer (some ⟨g, 0, none⟩)) (hy : a.eval y = .agg cells) (n : Nat)
    (t : TypeId) (old : Array Value) (hg : w.heap[g]? = some (.cells old t (0, 0))) (hi : (P.info? ty).map (·.size) = some n) (hn : cells.size = n)
    (hold : old.size = n) (h1 : cells.all (·.oneCell') = true)
    (h : wpList P ops Q rest (a.put o.dst undef) (w.setRow g cells)) : wpList P ops Q (o :: rest) a w :=
  wpList_store_row hgd ty x y ho g cells hx hy t old hg (by rw [hn]; exact hi) (by rw [hn]; exact hold) h1 h
theorem eight {V : List Int} (h : V.length = 8) : ∃ a b c d e f g i, V = [a, b, c, d, e, f, g, i] := by
  match V, h with
  | [a, b, c, d, e, f, g, i], _ => exact ⟨a, b, c, d, e, f, g, i, rfl⟩
theorem s121 : (Tryz.prog.info? 158).map (·.size) = some 8 := by kernel_rfl
theorem z121 : (Tryz.prog.info? 158).map (·.zero) = some (some (.agg (List.replicate 8 (Value.int .u32 0)).toArray)) := by kernel_rfl
def wbe256 (p : List UInt8) (q i : Nat) : Int := IntKind.u32.wrap (num ((p.drop (q + 4 * i)).take 4) : Nat)
def sc256 (p : List UInt8) (q : Nat) (k : Nat) : List Int := (List.range k).map (wbe256 p q)
theorem sc256_length (p : List UInt8) (q k : Nat) : (sc256 p q k).length = k := by simp [sc256]
theorem sc256_succ (p : List UInt8) (q k : Nat) : sc256 p q (k + 1) = sc256 p q k ++ [wbe256 p q k] := by simp [sc256, List.range_succ]
def sg0256 (x : Int) : Int := xo (xo (rrI x 7) (rrI x 18)) (x / 8)
def sg1256 (x : Int) : Int := xo (xo (rrI x 17) (rrI x 19)) (x / 1024)
def w256 (k : Nat) (L : List Int) : List Int := L ++ [wr32 (wr32 (wr32 (sg1256 (gt L (k + 14)) + gt L (k + 9)) + sg0256 (gt L (k + 1))) + gt L k)]
theorem w256_length (L0 : List Int) (h : L0.length = 16) (k : Nat) : (it w256 L0 k).length = k + 16 := by
  induction k with
  | zero => simp [it, h]
  | succ k ih => simp [it, w256, ih]
def W256 (p : List UInt8) (q : Nat) : List Int := it w256 (sc256 p q 16) 48
def t1256 (L : List Int) (t : Nat) (e f g h : Int) : Int := wr32 (wr32 (wr32 (wr32 (h + xo (xo (rrI e 6) (rrI e 11)) (rrI e 25)) + xo (an e f) (an (no e) g)) + gt k256T t) + gt L t)
def t2256 (a b c : Int) : Int := wr32 (xo (xo (rrI a 2) (rrI a 13)) (rrI a 22) + xo (xo (an a b) (an a c)) (an b c))
def v256 (L : List Int) (t : Nat) : List Int → List Int
  | [a, b, c, d, e, f, g, h] => [wr32 (t1256 L t e f g h + t2256 a b c), a, b, c, wr32 (d + t1256 L t e f g h), e, f, g]
  | l => l
theorem v256_length (L : List Int) (H : List Int) (h : H.length = 8) (k : Nat) : (it (v256 L) H k).length = 8 := by
  induction k with
  | zero => simp [it, h]
  | succ k ih => obtain ⟨a, b, c, d, e, f, g, i, hV⟩ := eight ih; rw [it, hV]; rfl
/-- The first k sums of two lists, the rest of the first. -/
def ad256 (H V : List Int) (k : Nat) : List Int := (List.range k).map (fun i => wr32 (gt H i + gt V i)) ++ H.drop k
theorem ad256_length (H V : List Int) (h : H.length = 8) (k : Nat) (hk : k ≤ 8) : (ad256 H V k).length = 8 := by simp [ad256, h]; omega
theorem ad256_gt (H V : List Int) (h : H.length = 8) (k : Nat) (hk : k < 8) : gt (ad256 H V k) k = gt H k := by
  simp [gt, ad256, List.getElem?_append_right]
theorem ad256_set (H V : List Int) (h : H.length = 8) (k : Nat) (hk : k < 8) : ((ad256 H V k).map u32v).set k (u32v (wr32 (gt H k + gt V k))) = (ad256 H V (k + 1)).map u32v := by
  rw [← List.map_set]
  congr 1
  unfold ad256
  rw [List.set_append_right _ _ (by simp), List.drop_eq_getElem_cons (by omega)]
  simp only [List.length_map, List.length_range, Nat.sub_self, List.set_cons_zero]
  rw [List.range_succ, List.map_append, List.append_assoc]
  rfl
def blk256 (p : List UInt8) (q : Nat) (H : List Int) : List Int := ad256 H (it (v256 (W256 p q)) H 64) 8
def st256 (p : List UInt8) (j : Nat) : List Int := it (fun j H => blk256 p (64 * j) H) [1779033703, 3144134277, 1013904242, 2773480762, 1359893119, 2600822924, 528734635, 1541459225] j
theorem st256_length (p : List UInt8) (j : Nat) : (st256 p j).length = 8 := by
  induction j with
  | zero => rfl
  | succ j ih => show (ad256 _ _ 8).length = 8; exact ad256_length _ _ ih 8 (by omega)
theorem st256_in (p : List UInt8) (j : Nat) : ∀ x ∈ st256 p j, 0 ≤ x ∧ x < 4294967296 := by
  cases j with
  | zero => intro x hx; simp [st256, it] at hx; omega
  | succ j =>
    intro x hx
    have hx' : x ∈ ad256 (st256 p j) (it (v256 (W256 p (64 * j))) (st256 p j) 64) 8 := hx
    unfold ad256 at hx'
    rw [List.drop_of_length_le (by rw [st256_length]; omega)] at hx'
    simp only [List.append_nil, List.mem_map] at hx'
    obtain ⟨i, -, rfl⟩ := hx'
    simp only [wr32, w32]
    omega
def out256 (H : List Int) (k : Nat) : List UInt8 := ((List.range k).map (fun i => dig (n64 (gt H i)) 4)).flatten
theorem out256_succ (H : List Int) (k : Nat) : out256 H (k + 1) = out256 H k ++ dig (n64 (gt H k)) 4 := by simp [out256, List.range_succ]
theorem out256_length (H : List Int) (k : Nat) : (out256 H k).length = 4 * k := by
  induction k with
  | zero => rfl
  | succ k ih => rw [out256_succ, List.length_append, ih, dig_length]; omega
def sha256 (l : List UInt8) : List UInt8 := out256 (st256 (pad64 l false) ((pad64 l false).length / 64)) 8
set_option maxRecDepth 1400 in
set_option maxHeartbeats 6000000 in
theorem sha256_c (v : Value) (l : List UInt8) (w : World) (h : Bs w v l) (hl : l.length ≤ 4000000) : Calls Tryz.prog 105 #[v] w fun e w' => ∃ v', e = .returned v' ∧ Own w.heap.size 5 w' v' ((sha256 l).map cb) ∧ Keep w w' := by
  go_enter Tryz.func105, Tryz.ntmps105
  go_wp2_with fail
  refine (padded64_c v l false w h hl).mono ?_
  rintro e wp ⟨pv, rfl, op, kp⟩
  obtain ⟨m, hm0, hm⟩ := zs64_dvd l.length
  rw [← pad64_length l false] at hm
  have hz := zs64_lt l.length
  have hpl : (pad64 l false).length ≤ 4000200 := by rw [pad64_length]; omega
  have hmd : sha256 l = out256 (st256 (pad64 l false) m) 8 := by unfold sha256; rw [show (pad64 l false).length / 64 = m by omega]
  have HMD := Hid.mk hmd
  clear hmd
  generalize pad64 l false = p at *
  have HM := Hid.mk hm
  clear hm
  go_wp2_with fail
  refine (k256_c wp).mono ?_
  rintro e wt ⟨rfl, kt⟩
  have hk64 : (k256T.map u32v).length = 64 := by rw [List.length_map, k256T_length]
  have HK64 := Hid.mk hk64
  clear hk64
  go_wp2_with (first
    | (refine wpList_alloc_z (by rfl) 156 (by rfl) (List.replicate 64 (.int .u32 0)) z117 ?_)
    | (refine wpList_store_row (by rfl) 156 (.tmp 4) (.tmp 23) (by rfl) wt.heap.size (k256T.map u32v).toArray (by rfl) (by rfl) 156 _ (Arr.new wt 156 _) (by rw [List.size_toArray, HK64.out]; exact s117) (by simp [HK64.out]) k256T_one ?_))
  have AK0 := (Arr.new wt 156 (List.replicate 64 (Value.int .u32 0))).row (k256T.map u32v)
  have KK0 : Keep wt ((wt.alloc (.cells (List.replicate 64 (Value.int .u32 0)).toArray 156)).setRow wt.heap.size (k256T.map u32v).toArray) := ((Keep.refl wt).alloc _).setRow (Nat.le_refl _) _
  have hsz : ((wt.alloc (.cells (List.replicate 64 (Value.int .u32 0)).toArray 156)).setRow wt.heap.size (k256T.map u32v).toArray).heap.size = wt.heap.size + 1 := by rw [setRow_size]; exact World.size_alloc _ _
  have AH0 : Arr (((wt.alloc (.cells (List.replicate 64 (Value.int .u32 0)).toArray 156)).setRow wt.heap.size (k256T.map u32v).toArray).alloc (.cells #[.int .u32 1779033703, .int .u32 3144134277, .int .u32 1013904242, .int .u32 2773480762, .int .u32 1359893119, .int .u32 2600822924, .int .u32 528734635, .int .u32 1541459225] 158)) (wt.heap.size + 1) 158 ((st256 p 0).map u32v) := by
    have := heap_alloc_new ((wt.alloc (.cells (List.replicate 64 (Value.int .u32 0)).toArray 156)).setRow wt.heap.size (k256T.map u32v).toArray) (.cells #[.int .u32 1779033703, .int .u32 3144134277, .int .u32 1013904242, .int .u32 2773480762, .int .u32 1359893119, .int .u32 2600822924, .int .u32 528734635, .int .u32 1541459225] 158)
    rw [hsz] at this; exact this
  have KH0 := KK0.alloc (.cells #[.int .u32 1779033703, .int .u32 3144134277, .int .u32 1013904242, .int .u32 2773480762, .int .u32 1359893119, .int .u32 2600822924, .int .u32 528734635, .int .u32 1541459225] 158)
  have AK1 := AK0.keep ((Keep.refl _).alloc (.cells #[.int .u32 1779033703, .int .u32 3144134277, .int .u32 1013904242, .int .u32 2773480762, .int .u32 1359893119, .int .u32 2600822924, .int .u32 528734635, .int .u32 1541459225] 158))
  have hpb := op.bs.keep (kt.trans KH0)
  have K0 := kt.trans KH0
  have HS5 : Hid (wp.heap.size ≤ wt.heap.size + 1) := Hid.mk (by have := kt.size; omega)
  obtain ⟨g5, hg5⟩ : ∃ g, g = wt.heap.size + 1 := ⟨_, rfl⟩
  rw [← hg5] at AH0 HS5 ⊢
  have H45 : Hid (wt.heap.size ≠ g5) := Hid.mk (by omega)
  clear hg5 hsz
  obtain ⟨g4, hg4⟩ : ∃ g, g = wt.heap.size := ⟨_, rfl⟩
  have AK2 := AK1
  rw [← hg4] at H45 ⊢
  have AK3 : Arr (((wt.alloc (.cells (List.replicate 64 (Value.int .u32 0)).toArray 156)).setRow g4 (k256T.map u32v).toArray).alloc (.cells #[.int .u32 1779033703, .int .u32 3144134277, .int .u32 1013904242, .int .u32 2773480762, .int .u32 1359893119, .int .u32 2600822924, .int .u32 528734635, .int .u32 1541459225] 158)) g4 156 (k256T.map u32v) := by rw [hg4]; exact AK1
  have AH1 : Arr (((wt.alloc (.cells (List.replicate 64 (Value.int .u32 0)).toArray 156)).setRow g4 (k256T.map u32v).toArray).alloc (.cells #[.int .u32 1779033703, .int .u32 3144134277, .int .u32 1013904242, .int .u32 2773480762, .int .u32 1359893119, .int .u32 2600822924, .int .u32 528734635, .int .u32 1541459225] 158)) g5 158 ((st256 p 0).map u32v) := by rw [hg4]; exact AH0
  have K1 : Keep wp (((wt.alloc (.cells (List.replicate 64 (Value.int .u32 0)).toArray 156)).setRow g4 (k256T.map u32v).toArray).alloc (.cells #[.int .u32 1779033703, .int .u32 3144134277, .int .u32 1013904242, .int .u32 2773480762, .int .u32 1359893119, .int .u32 2600822924, .int .u32 528734635, .int .u32 1541459225] 158)) := by rw [hg4]; exact K0
  clear AK0 AK1 AK2 AH0 K0 KH0 KK0 hpb hg4
  have hpb := op.bs
  obtain ⟨pa, pc, rfl, hpc, hpm, -⟩ := hpb.form
  unfold maxLen at hpm
  go_loopw [6] (fun ov wr => ∃ (j : Nat) (H : List Int), j ≤ m ∧ H = st256 p j ∧ ov = .int .i64 (64 * j : Nat) ∧ Arr wr g4 156 (k256T.map u32v) ∧ Arr wr g5 158 (H.map u32v) ∧ Keep wp wr) (fun o _ => p.length - (intOf o).toNat)
  case atStart => exact ⟨0, _, by omega, rfl, rfl, AK3, AH1, K1⟩
  case round =>
    clear AK3 AH1 K1
    obtain ⟨j, H, hj, hs, rfl, AK, AH, kw⟩ := hrel
    have hHl : H.length = 8 := by rw [hs]; exact st256_length p j
    have hHin : ∀ x ∈ H, 0 ≤ x ∧ x < 4294967296 := by rw [hs]; exact st256_in p j
    have HS := Hid.mk hs
    have HHL := Hid.mk hHl
    have HIN := Hid.mk hHin
    clear hs hHl hHin
    obtain ⟨q, hq⟩ : ∃ q, q = 64 * j := ⟨_, rfl⟩
    rw [← hq]
    by_cases hlt : j < m
    · have i0 : (q : Int) < p.length := by have := HM.out; omega
      have hqb : q + 64 ≤ p.length := by have := HM.out; omega
      have HQ := Hid.mk hq
      clear hq
      go_wp2_with (refine wpList_alloc_z (by rfl) 156 (by rfl) (List.replicate 64 (.int .u32 0)) z117 ?_)
      have AW0 : Arr (wr.alloc (.cells (List.replicate 64 (Value.int .u32 0)).toArray 156)) wr.heap.size 156 (fill32 (sc256 p q 0) 64) := Arr.new wr 156 (List.replicate 64 (.int .u32 0))
      have KA := (Keep.refl wr).alloc (.cells (List.replicate 64 (Value.int .u32 0)).toArray 156)
      have AH1 := AH.keep KA
      have AK1 := AK.keep KA
      have K1 := kw.trans KA
      have hne : g4 ≠ wr.heap.size ∧ g5 ≠ wr.heap.size := by have := AH.lt; have := AK.lt; omega
      have hw7 := kw.size
      obtain ⟨g7, hg7⟩ : ∃ g7, g7 = wr.heap.size := ⟨_, rfl⟩
      rw [← hg7] at AW0 hne hw7 ⊢
      have HN := Hid.mk hne
      have HW7 := Hid.mk hw7
      clear hg7 KA AH AK hne hw7
      go_loopw [8] (fun iv wx => ∃ k : Nat, k ≤ 16 ∧ iv = .int .i64 k ∧ Arr wx g4 156 (k256T.map u32v) ∧ Arr wx g5 158 (H.map u32v) ∧ Arr wx g7 156 (fill32 (sc256 p q k) 64) ∧ Keep wp wx) (fun i _ => 16 - (intOf i).toNat)
      case atStart => exact ⟨0, by omega, rfl, AK1, AH1, AW0, K1⟩
      case round =>
        clear AW0 AH1 AK1 K1
        obtain ⟨k, hk, rfl, AK, AH, AW, kx⟩ := hrel
        by_cases hlt2 : k < 16
        · have j0 : (k : Int) < 16 := by omega
          have j00 : (k : Int) < 64 := by omega
          obtain ⟨r1, hr1⟩ : ∃ r, r = 4 * k := ⟨_, rfl⟩
          obtain ⟨r2, hr2⟩ : ∃ r, r = q + r1 := ⟨_, rfl⟩
          have f1 : IntKind.i64.wrap (4 * (k : Int)) = (r1 : Int) := by rw [IntKind.wrap_i64] <;> omega
          have f2 : IntKind.i64.wrap ((q : Int) + (r1 : Int)) = (r2 : Int) := by rw [IntKind.wrap_i64] <;> omega
          have f3 : IntKind.i64.wrap ((r2 : Int) + 4) = (r2 : Int) + 4 := by rw [IntKind.wrap_i64]; omega
          have i1 : (r2 : Int) + 4 ≤ p.length := by omega
          have i2 : (r2 : Int) ≤ pc := by omega
          have i3 : (r2 : Int) + 4 ≤ pc := by omega
          have i4 : ¬ pc = r2 := by omega
          have hpart := (hpb.keep kx).part (i := r2) (j := r2 + 4) (by omega) (by omega) (pa.map (·.add r2)) (fun _ => rfl)
          rw [show r2 + 4 - r2 = 4 by omega] at hpart
          have hw : wbe256 p q k = IntKind.u32.wrap (num ((p.drop r2).take 4) : Nat) := by rw [hr2, hr1]; rfl
          have hn4 : ((p.drop r2).take 4).length = 4 := by simp; omega
          have HW := Hid.mk hw
          have hsl := sc256_length p q k
          have hc := AW.cell k
          rw [show (fill32 (sc256 p q k) 64)[k]? = some (.int .u32 0) by have := fill32_next (L := sc256 p q k) (n := 64) (by omega); rwa [hsl] at this] at hc
          have HSL := Hid.mk hsl
          clear hr1 hr2 hw hsl
          go_wp2_with fail
          refine (number_c _ _ _ hpart (by omega)).mono ?_
          rintro e w2 ⟨rfl, k2⟩
          have AW2 := AW.keep k2
          have AH2 := AH.keep k2
          have AK2 := AK.keep k2
          have kx2 := kx.trans k2
          have hc2 := k2.cell hc
          have hf := AW2.frozen k
          generalize num ((p.drop r2).take 4) = nn at *
          go_wp2_with fail
          go_roundw
          case rel =>
            refine ⟨k + 1, by omega, by go_num, ?_, ?_, ?_, kx2.setCell HW7.out _⟩
            · exact AK2.kept (grown_set (grown_refl _ _) k _) HN.out.1
            · exact AH2.kept (grown_set (grown_refl _ _) k _) HN.out.2
            · have := AW2.set k (.int .u32 (IntKind.u32.wrap (nn : Int)))
              have e := fill32_set (L := sc256 p q k) (n := 64) (by rw [HSL.out]; omega) (wbe256 p q k)
              rw [HSL.out] at e
              rw [sc256_succ, ← e, HW.out]
              exact this
          case measure => simp [intOf]; omega
        · have j0 : ¬ (k : Int) < 16 := by omega
          have hk16 : k = 16 := by omega
          subst hk16
          go_wp2_with fail
          go_loopw [9] (fun iv wx => ∃ k : Nat, k ≤ 48 ∧ iv = .int .i64 (k + 16 : Nat) ∧ Arr wx g4 156 (k256T.map u32v) ∧ Arr wx g5 158 (H.map u32v) ∧ Arr wx g7 156 (fill32 (it w256 (sc256 p q 16) k) 64) ∧ Keep wp wx) (fun i _ => 64 - (intOf i).toNat)
          case atStart => exact ⟨0, by omega, rfl, AK, AH, AW, kx⟩
          case round =>
            clear AK AH AW kx
            obtain ⟨k, hk, rfl, AK, AH, AW, kx⟩ := hrel
            obtain ⟨t, ht⟩ : ∃ t, t = k + 16 := ⟨_, rfl⟩
            rw [← ht]
            have hLl := w256_length (sc256 p q 16) (sc256_length p q 16) k
            obtain ⟨L, hL⟩ : ∃ L, L = it w256 (sc256 p q 16) k := ⟨_, rfl⟩
            rw [← hL] at hLl AW
            by_cases hlt3 : k < 48
            · have j1 : (t : Int) < 64 := by omega
              obtain ⟨t15, ht15⟩ : ∃ r, r = k + 1 := ⟨_, rfl⟩
              obtain ⟨t2, ht2⟩ : ∃ r, r = k + 14 := ⟨_, rfl⟩
              obtain ⟨t7, ht7⟩ : ∃ r, r = k + 9 := ⟨_, rfl⟩
              have f1 : IntKind.i64.wrap ((t : Int) - 15) = (t15 : Int) := by rw [IntKind.wrap_i64] <;> omega
              have f2 : IntKind.i64.wrap ((t : Int) - 2) = (t2 : Int) := by rw [IntKind.wrap_i64] <;> omega
              have f3 : IntKind.i64.wrap ((t : Int) - 7) = (t7 : Int) := by rw [IntKind.wrap_i64] <;> omega
              have f4 : IntKind.i64.wrap ((t : Int) - 16) = (k : Int) := by rw [IntKind.wrap_i64] <;> omega
              have b1 : (t15 : Int) < 64 := by omega
              have b2 : (t2 : Int) < 64 := by omega
              have b3 : (t7 : Int) < 64 := by omega
              have b4 : (k : Int) < 64 := by omega
              have c1 := AW.cell t15
              rw [fill32_get (by omega)] at c1
              have c2 := AW.cell t2
              rw [fill32_get (by omega)] at c2
              have c3 := AW.cell t7
              rw [fill32_get (by omega)] at c3
              have c4 := AW.cell k
              rw [fill32_get (by omega)] at c4
              have c5 := AW.cell t
              rw [show (fill32 L 64)[t]? = some (.int .u32 0) by have := fill32_next (L := L) (n := 64) (by omega); rwa [hLl, ← ht] at this] at c5
              have c6 := AW.frozen t
              have H15 := Hid.mk ht15
              have H2 := Hid.mk ht2
              have H7 := Hid.mk ht7
              have HTT := Hid.mk ht
              have HL := Hid.mk hL
              have HLL := Hid.mk hLl
              have n3 : Hid (t7 ≠ t ∧ k ≠ t) := Hid.mk (by omega)
              clear ht15 ht2 ht7 ht hL hLl
              go_wp2_with fail
              go_quiet ((go_at_call 123; exact Calls.quiet_of_same (rotrI_c _ _ _ (by decide) (by decide))))
              go_wp2_with fail
              have hcy : ∀ a, (wr.drewN nq).cell? a = wr.cell? a := fun _ => rfl
              have hfy : ∀ a, (wr.drewN nq).frozen? a = wr.frozen? a := fun _ => rfl
              replace AK := AK.drewN nq
              replace AH := AH.drewN nq
              replace AW := AW.drewN nq
              replace kx := kx.drewN nq
              rw [← hcy] at c1 c2 c3 c4 c5
              rw [← hfy] at c6
              clear hcy hfy
              generalize wr.drewN nq = wy at *
              go_quiet ((go_at_call 123; exact Calls.quiet_of_same (rotrI_c _ _ _ (by decide) (by decide))))
              go_wp2_with fail
              have hcy : ∀ a, (wy.drewN nq).cell? a = wy.cell? a := fun _ => rfl
              have hfy : ∀ a, (wy.drewN nq).frozen? a = wy.frozen? a := fun _ => rfl
              replace AK := AK.drewN nq
              replace AH := AH.drewN nq
              replace AW := AW.drewN nq
              replace kx := kx.drewN nq
              rw [← hcy] at c1 c2 c3 c4 c5
              rw [← hfy] at c6
              clear hcy hfy
              generalize wy.drewN nq = wz at *
              go_region_held3 (fun w' => w'.cell? ⟨g7, t7, none⟩ = some (.int .u32 (gt L t7)) ∧ w'.cell? ⟨g7, k, none⟩ = some (.int .u32 (gt L k)))
                (first | assumption | exact ⟨c3, c4⟩ | exact ⟨cell_set_ne AW c3 n3.out.1, cell_set_ne AW c4 n3.out.2⟩)
                (fail)
              all_goals
                go_wp2_with fail
                go_roundw
                case rel =>
                  refine ⟨k + 1, by omega, by have := HTT.out; go_num, ?_, ?_, ?_, ?_⟩
                  · exact Arr.drew (AK.kept (grown_set (grown_refl _ _) t _) HN.out.1)
                  · exact Arr.drew (AH.kept (grown_set (grown_refl _ _) t _) HN.out.2)
                  · have e := fill32_set (L := L) (n := 64) (by rw [HLL.out]; omega) (wr32 (wr32 (wr32 (sg1256 (gt L t2) + gt L t7) + sg0256 (gt L t15)) + gt L k))
                    rw [HLL.out, ← HTT.out] at e
                    have := AW.set t (.int .u32 (wr32 (wr32 (wr32 (sg1256 (gt L t2) + gt L t7) + sg0256 (gt L t15)) + gt L k)))
                    rw [e] at this
                    rw [it, ← HL.out, w256, ← H15.out, ← H2.out, ← H7.out]
                    exact this
                  · exact (kx.setCell HW7.out _).drew
                case measure => have := HTT.out; simp [intOf]; omega
            · have j1 : ¬ (t : Int) < 64 := by omega
              have hk64 : k = 48 := by omega
              subst hk64
              have hLW : L = W256 p q := hL
              have HLW := Hid.mk hLW
              have HLL := Hid.mk hLl
              clear hLW hL ht hLl
              have hH8 : (H.map u32v).length = 8 := by rw [List.length_map, HHL.out]
              have HH8 := Hid.mk hH8
              clear hH8
              go_wp2_with (first
                | (refine wpList_load_row (by rfl) 158 (.tmp 5) (by rfl) g5 (by rfl) 158 (H.map u32v).toArray (0, 0) _ AH Tryz.underlying158 rfl (by rw [List.size_toArray, HH8.out]; exact s121) ?_)
                | (refine wpList_alloc_z (by rfl) 158 (by rfl) (List.replicate 8 (.int .u32 0)) z121 ?_)
                | (refine wpList_store_row (by rfl) 158 (.tmp 12) (.tmp 103) (by rfl) wr.heap.size (H.map u32v).toArray (by rfl) (by rfl) 158 _ (Arr.new wr 158 _) (by rw [List.size_toArray, HH8.out]; exact s121) (by simp [HHL.out]) (u32_one _) ?_))
              have AV0 := (Arr.new wr 158 (List.replicate 8 (Value.int .u32 0))).row (H.map u32v)
              have KV : Keep wr ((wr.alloc (.cells (List.replicate 8 (Value.int .u32 0)).toArray 158)).setRow wr.heap.size (H.map u32v).toArray) := ((Keep.refl wr).alloc _).setRow (Nat.le_refl _) _
              have AK1 := AK.keep KV
              have AH1 := AH.keep KV
              have AW1 := AW.keep KV
              have K1 := kx.trans KV
              have hne : g4 ≠ wr.heap.size ∧ g5 ≠ wr.heap.size ∧ g7 ≠ wr.heap.size := by have := AH.lt; have := AK.lt; have := AW.lt; omega
              have hw12 := kx.size
              obtain ⟨g12, hg12⟩ : ∃ g, g = wr.heap.size := ⟨_, rfl⟩
              rw [← hg12] at AV0 AK1 AH1 AW1 K1 hne hw12 ⊢
              have HN2 := Hid.mk hne
              have HW12 := Hid.mk hw12
              clear hg12 KV AK AH AW hne hw12
              go_loopw [13] (fun iv wx => ∃ (k : Nat) (V : List Int), k ≤ 64 ∧ V = it (v256 L) H k ∧ iv = .int .i64 k ∧ Arr wx g4 156 (k256T.map u32v) ∧ Arr wx g5 158 (H.map u32v) ∧ Arr wx g7 156 (fill32 L 64) ∧ Arr wx g12 158 (V.map u32v) ∧ Keep wp wx) (fun i _ => 64 - (intOf i).toNat)
              case atStart => exact ⟨0, H, by omega, rfl, rfl, AK1, AH1, AW1, AV0, K1⟩
              case round =>
                clear AV0 AK1 AH1 AW1 K1 kx
                obtain ⟨k, V, hk, hV, rfl, AK, AH, AW, AV, kx⟩ := hrel
                have hVl : V.length = 8 := by rw [hV]; exact v256_length L H HHL.out k
                have HV := Hid.mk hV
                clear hV
                by_cases hlt4 : k < 64
                · have j2 : (k : Int) < 64 := by omega
                  obtain ⟨v0, v1, v2, v3, v4, v5, v6, v7, rfl⟩ := eight hVl
                  clear hVl
                  have cw := AW.cell k
                  rw [fill32_get (by rw [HLL.out]; omega)] at cw
                  have ck := AK.cell k
                  rw [get32 (by rw [k256T_length]; exact hlt4)] at ck
                  have c0 := AV.cell 0
                  have c1 := AV.cell 1
                  have c2 := AV.cell 2
                  have c3 := AV.cell 3
                  have c4 := AV.cell 4
                  have c5 := AV.cell 5
                  have c6 := AV.cell 6
                  have c7 := AV.cell 7
                  simp only [List.map_cons, List.map_nil, u32v, List.getElem?_cons_zero, List.getElem?_cons_succ] at c0 c1 c2 c3 c4 c5 c6 c7
                  go_wp2_with fail
                  go_quiet (fail)
                  go_wp2_with fail
                  have hcy : ∀ a, (wr.drewN nq).cell? a = wr.cell? a := fun _ => rfl
                  have hfy : ∀ a, (wr.drewN nq).frozen? a = wr.frozen? a := fun _ => rfl
                  replace AK := AK.drewN nq
                  replace AH := AH.drewN nq
                  replace AW := AW.drewN nq
                  replace AV := AV.drewN nq
                  replace kx := kx.drewN nq
                  rw [← hcy] at cw ck c0 c1 c2 c3 c4 c5 c6 c7
                  clear hcy hfy
                  generalize wr.drewN nq = wy at *
                  go_quiet ((go_at_call 123; exact Calls.quiet_of_same (rotrI_c _ _ _ (by decide) (by decide))))
                  go_wp2_with fail
                  have hcy : ∀ a, (wy.drewN nq).cell? a = wy.cell? a := fun _ => rfl
                  have hfy : ∀ a, (wy.drewN nq).frozen? a = wy.frozen? a := fun _ => rfl
                  replace AK := AK.drewN nq
                  replace AH := AH.drewN nq
                  replace AW := AW.drewN nq
                  replace AV := AV.drewN nq
                  replace kx := kx.drewN nq
                  rw [← hcy] at cw ck c0 c1 c2 c3 c4 c5 c6 c7
                  clear hcy hfy
                  generalize wy.drewN nq = wz at *
                  go_quiet ((go_at_call 123; exact Calls.quiet_of_same (rotrI_c _ _ _ (by decide) (by decide))))
                  have hcy : ∀ a, (wz.drewN nq).cell? a = wz.cell? a := fun _ => rfl
                  have hfy : ∀ a, (wz.drewN nq).frozen? a = wz.frozen? a := fun _ => rfl
                  replace AK := AK.drewN nq
                  replace AH := AH.drewN nq
                  replace AW := AW.drewN nq
                  replace AV := AV.drewN nq
                  replace kx := kx.drewN nq
                  rw [← hcy] at cw ck c0 c1 c2 c3 c4 c5 c6 c7
                  clear hcy hfy
                  generalize wz.drewN nq = wu at *
                  go_wp2_with (refine wpList_store_rowM (by rfl) 158 (.tmp 12) (.tmp 185) (by rfl) g12 _ (by rfl) (by rfl) 8 158 _ AV s121 (by rfl) (by rfl) (by simp [Value.oneCell']) ?_)
                  go_roundw
                  case rel =>
                    refine ⟨k + 1, v256 L k [v0, v1, v2, v3, v4, v5, v6, v7], by omega, by rw [it, ← HV.out], by go_num, ?_, ?_, ?_, ?_, ?_⟩
                    · exact AK.kept (grown_setRow (grown_refl _ _) _) HN2.out.1
                    · exact AH.kept (grown_setRow (grown_refl _ _) _) HN2.out.2.1
                    · exact AW.kept (grown_setRow (grown_refl _ _) _) HN2.out.2.2
                    · have e := AV.row ((v256 L k [v0, v1, v2, v3, v4, v5, v6, v7]).map u32v)
                      simpa [v256, t1256, t2256, u32v, w32] using e
                    · exact kx.setRow HW12.out _
                  case measure => simp [intOf]; omega
                · have j2 : ¬ (k : Int) < 64 := by omega
                  have hk64 : k = 64 := by omega
                  subst hk64
                  have HVL := Hid.mk hVl
                  clear hVl
                  go_wp2_with fail
                  go_loopw [18] (fun iv wx => ∃ k : Nat, k ≤ 8 ∧ iv = .int .i64 k ∧ Arr wx g4 156 (k256T.map u32v) ∧ Arr wx g5 158 ((ad256 H V k).map u32v) ∧ Arr wx g12 158 (V.map u32v) ∧ Keep wp wx) (fun i _ => 8 - (intOf i).toNat)
                  case atStart => exact ⟨0, by omega, rfl, AK, by simpa [ad256] using AH, AV, kx⟩
                  case round =>
                    clear AK AH AW AV kx
                    obtain ⟨k, hk, rfl, AK, AH, AV, kx⟩ := hrel
                    by_cases hlt5 : k < 8
                    · have j3 : (k : Int) < 8 := by omega
                      have ch := AH.cell k
                      rw [get32 (by rw [ad256_length H V HHL.out k hk]; exact hlt5), ad256_gt H V HHL.out k hlt5] at ch
                      have cv := AV.cell k
                      rw [get32 (by rw [HVL.out]; exact hlt5)] at cv
                      have fz := AH.frozen k
                      go_wp2_with fail
                      go_region
                      all_goals
                        go_wp2_with fail
                        go_roundw
                        case rel =>
                          refine ⟨k + 1, by omega, by go_num, ?_, ?_, ?_, ?_⟩
                          · exact Arr.drew (AK.kept (grown_set (grown_refl _ _) k _) H45.out)
                          · rw [← ad256_set H V HHL.out k hlt5]; exact AH.set k _
                          · exact Arr.drew (AV.kept (grown_set (grown_refl _ _) k _) (Ne.symm HN2.out.2.1))
                          · exact (kx.setCell HS5.out _).drew
                        case measure => simp [intOf]; omega
                    · have j3 : ¬ (k : Int) < 8 := by omega
                      have hk8 : k = 8 := by omega
                      subst hk8
                      go_wp2_with fail
                      go_roundw
                      case rel =>
                        refine ⟨j + 1, blk256 p q H, by omega, by rw [HQ.out, HS.out]; rfl, by have := HQ.out; go_num, AK, ?_, kx⟩
                        unfold blk256
                        rw [← HLW.out, ← HV.out]
                        exact AH
                      case measure => have := HM.out; simp [intOf]; omega
    · have i0 : ¬ (q : Int) < p.length := by have := HM.out; omega
      have hjm : j = m := by omega
      subst hjm
      clear hq
      go_wp2_with fail
      have O0 : Own wp.heap.size 5 (wr.alloc (.cells #[] 5)) (.slice (some ⟨wr.heap.size, 0, none⟩) 0 0) ((out256 H 0).map cb) := Own.lit (B := wp.heap.size) (e := 5) (w := wr) [] kw.size (by simp)
      have KA := (Keep.refl wr).alloc (.cells #[] 5)
      have AH1 := AH.keep KA
      have K1 := kw.trans KA
      clear KA AH AK
      go_loopw [19, 20] (fun ov iv wx => ∃ k : Nat, k ≤ 8 ∧ iv = .int .i64 k ∧ Own wp.heap.size 5 wx ov ((out256 H k).map cb) ∧ Arr wx g5 158 (H.map u32v) ∧ Keep wp wx) (fun _ i _ => 8 - (intOf i).toNat)
      case atStart => exact ⟨0, by omega, rfl, O0, AH1, K1⟩
      case round =>
        clear O0 AH1 K1
        obtain ⟨k, hk, rfl, ow, AH, kx⟩ := hrel
        by_cases hlt5 : k < 8
        · have j0 : (k : Int) < 8 := by omega
          have j00 : (k : Int) < 8 := by omega
          have hc := AH.cell k
          rw [get32 (by rw [HHL.out]; omega)] at hc
          have hn := n64_eq (gt H k)
          go_wp2_with fail
          refine (digits4_c (gt H k) _).mono ?_
          rintro e w2 ⟨dv, rfl, o2, k2⟩
          go_wp2_with fail
          refine (join_c _ _ (out256 H k) (dig (n64 (gt H k)) 4) _ (ow.bs.keep k2) o2.bs (by rw [out256_length, dig_length]; omega)).mono ?_
          rintro e w3 ⟨jv, rfl, o3, k3⟩
          go_wp2_with fail
          go_roundw
          case rel => exact ⟨k + 1, by omega, by go_num, by rw [out256_succ]; exact o3.mono (kx.trans k2).size, AH.keep (k2.trans k3), kx.trans (k2.trans k3)⟩
          case measure => simp [intOf]; omega
        · have j0 : ¬ (k : Int) < 8 := by omega
          have hk5 : k = 8 := by omega
          subst hk5
          go_wp2
          go_ret
          exact ⟨_, rfl, by rw [HMD.out, ← HS.out]; exact ow.mono kp.size, kp.trans kx⟩
end Go.Proofs.Qxb6500771aGreat
