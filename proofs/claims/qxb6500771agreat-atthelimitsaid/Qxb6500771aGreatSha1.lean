/- digestm.sha1. -/
import Derived.Test.Qxb6500771aGreatMd4
import Derived.Test.Qxb6500771aGreatTab
namespace Go.Qm
open Go Go.RowKit
def gt (l : List Int) (i : Nat) : Int := l.getD i 0
theorem get32 {l : List Int} {i : Nat} (h : i < l.length) : (l.map u32v)[i]? = some (.int .u32 (gt l i)) := by simp [gt, List.getD, h, u32v]
theorem get64 {l : List Int} {i : Nat} (h : i < l.length) : (l.map u64v)[i]? = some (.int .u64 (gt l i)) := by simp [gt, List.getD, h, u64v]
/-- The first words of an array of n, the rest zero. -/
def fill32 (L : List Int) (n : Nat) : List Value := L.map u32v ++ List.replicate (n - L.length) (.int .u32 0)
def fill64 (L : List Int) (n : Nat) : List Value := L.map u64v ++ List.replicate (n - L.length) (.int .u64 0)
theorem fill32_get {L : List Int} {n i : Nat} (h : i < L.length) : (fill32 L n)[i]? = some (.int .u32 (gt L i)) := by
  unfold fill32; rw [List.getElem?_append_left (by simpa using h)]; exact get32 h
theorem fill64_get {L : List Int} {n i : Nat} (h : i < L.length) : (fill64 L n)[i]? = some (.int .u64 (gt L i)) := by
  unfold fill64; rw [List.getElem?_append_left (by simpa using h)]; exact get64 h
theorem fill32_next {L : List Int} {n : Nat} (h : L.length < n) : (fill32 L n)[L.length]? = some (.int .u32 0) := by
  unfold fill32; rw [List.getElem?_append_right (by simp), List.getElem?_replicate, if_pos (by simp; omega)]
theorem fill64_next {L : List Int} {n : Nat} (h : L.length < n) : (fill64 L n)[L.length]? = some (.int .u64 0) := by
  unfold fill64; rw [List.getElem?_append_right (by simp), List.getElem?_replicate, if_pos (by simp; omega)]
theorem fill32_set {L : List Int} {n : Nat} (h : L.length < n) (x : Int) : (fill32 L n).set L.length (.int .u32 x) = fill32 (L ++ [x]) n := by
  unfold fill32
  rw [List.set_append_right _ _ (by simp)]
  simp only [List.length_map, Nat.sub_self, List.length_append, List.length_singleton]
  rw [show n - L.length = (n - (L.length + 1)) + 1 by omega, List.replicate_succ, List.set_cons_zero, List.map_append, List.append_assoc]
  rfl
theorem fill64_set {L : List Int} {n : Nat} (h : L.length < n) (x : Int) : (fill64 L n).set L.length (.int .u64 x) = fill64 (L ++ [x]) n := by
  unfold fill64
  rw [List.set_append_right _ _ (by simp)]
  simp only [List.length_map, Nat.sub_self, List.length_append, List.length_singleton]
  rw [show n - L.length = (n - (L.length + 1)) + 1 by omega, List.replicate_succ, List.set_cons_zero, List.map_append, List.append_assoc]
  rfl
theorem fill32_nil (n : Nat) : fill32 [] n = List.replicate n (.int .u32 0) := by simp [fill32]
theorem fill64_nil (n : Nat) : fill64 [] n = List.replicate n (.int .u64 0) := by simp [fill64]
theorem cell_set_ne {w : World} {g i j : Nat} {u v : Value} {t : TypeId} {cs : List Value} (h : Arr w g t cs) (hc : w.cell? ⟨g, i, none⟩ = some v) (hne : i ≠ j) : (w.setCell ⟨g, j, none⟩ u).cell? ⟨g, i, none⟩ = some v := by
  rw [(h.set j u).cell i, List.getElem?_set_ne (Ne.symm hne), ← h.cell i, hc]
end Go.Qm
namespace Go.Proofs.Qxb6500771aGreat
open Go.RowKit Go.Qm
set_option linter.unusedVariables false
set_option linter.unusedSimpArgs false
attribute [local go_sem ↓] Go.wp_at_zero Go.wp_at_succ

theorem z120 : (Tryz.prog.info? 153).map (·.zero) = some (some (.agg (List.replicate 80 (Value.int .u32 0)).toArray)) := by kernel_rfl
/-- A word of a block, its greatest octet first. -/
def wbe (p : List UInt8) (q i : Nat) : Int := IntKind.u32.wrap (num ((p.drop (q + 4 * i)).take 4) : Nat)
def sc1 (p : List UInt8) (q : Nat) (k : Nat) : List Int := (List.range k).map (wbe p q)
theorem sc1_length (p : List UInt8) (q k : Nat) : (sc1 p q k).length = k := by simp [sc1]
theorem sc1_succ (p : List UInt8) (q k : Nat) : sc1 p q (k + 1) = sc1 p q k ++ [wbe p q k] := by simp [sc1, List.range_succ]
def sha1w (k : Nat) (L : List Int) : List Int := L ++ [rl (xo (xo (xo (gt L (k + 13)) (gt L (k + 8))) (gt L (k + 2))) (gt L k)) 1]
theorem sha1w_length (L0 : List Int) (h : L0.length = 16) (k : Nat) : (it sha1w L0 k).length = k + 16 := by
  induction k with
  | zero => simp [it, h]
  | succ k ih => simp [it, sha1w, ih]
abbrev R5 := Int × Int × Int × Int × Int
def sha1g (L : List Int) (t : Nat) (a b c d e f k : Int) : R5 := (wr32 (wr32 (wr32 (wr32 (rl a 5 + f) + e) + k) + gt L t), a, rl b 30, c, d)
def sha1f (L : List Int) (t : Nat) : R5 → R5
  | (a, b, c, d, e) => match t / 20 with
    | 0 => sha1g L t a b c d e (xo (an b c) (an (no b) d)) 1518500249
    | 1 => sha1g L t a b c d e (xo (xo b c) d) 1859775393
    | 2 => sha1g L t a b c d e (xo (xo (an b c) (an b d)) (an c d)) 2400959708
    | _ => sha1g L t a b c d e (xo (xo b c) d) 3395469782
def add5 (h s : R5) : R5 := (wr32 (h.1 + s.1), wr32 (h.2.1 + s.2.1), wr32 (h.2.2.1 + s.2.2.1), wr32 (h.2.2.2.1 + s.2.2.2.1), wr32 (h.2.2.2.2 + s.2.2.2.2))
def sha1W (p : List UInt8) (q : Nat) : List Int := it sha1w (sc1 p q 16) 64
def sha1blk (p : List UInt8) (q : Nat) (h : R5) : R5 := add5 h (it (sha1f (sha1W p q)) h 80)
def sha1s (p : List UInt8) (j : Nat) : R5 := it (fun j h => sha1blk p (64 * j) h) (1732584193, 4023233417, 2562383102, 271733878, 3285377520) j
def r5l (h : R5) : List Int := [h.1, h.2.1, h.2.2.1, h.2.2.2.1, h.2.2.2.2]
theorem add5_l (h s : R5) : (r5l (add5 h s)).map u32v = [.int .u32 ((h.1 + s.1) % 4294967296), .int .u32 ((h.2.1 + s.2.1) % 4294967296), .int .u32 ((h.2.2.1 + s.2.2.1) % 4294967296), .int .u32 ((h.2.2.2.1 + s.2.2.2.1) % 4294967296), .int .u32 ((h.2.2.2.2 + s.2.2.2.2) % 4294967296)] := by simp [r5l, add5, u32v, w32]
def be4s (H : List Int) (k : Nat) : List UInt8 := ((List.range k).map (fun i => dig (n64 (gt H i)) 4)).flatten
theorem be4s_succ (H : List Int) (k : Nat) : be4s H (k + 1) = be4s H k ++ dig (n64 (gt H k)) 4 := by simp [be4s, List.range_succ]
theorem be4s_length (H : List Int) (k : Nat) : (be4s H k).length = 4 * k := by
  induction k with
  | zero => rfl
  | succ k ih => rw [be4s_succ, List.length_append, ih, dig_length]; omega
def sha1 (l : List UInt8) : List UInt8 := be4s (r5l (sha1s (pad64 l false) ((pad64 l false).length / 64))) 5
set_option maxRecDepth 1200 in
set_option maxHeartbeats 4000000 in
theorem sha1_c (v : Value) (l : List UInt8) (w : World) (h : Bs w v l) (hl : l.length ≤ 4000000) : Calls Tryz.prog 104 #[v] w fun e w' => ∃ v', e = .returned v' ∧ Own w.heap.size 5 w' v' ((sha1 l).map cb) ∧ Keep w w' := by
  go_enter Tryz.func104, Tryz.ntmps104
  go_wp2_with fail
  refine (padded64_c v l false w h hl).mono ?_
  rintro e w0 ⟨pv, rfl, o0, k0⟩
  obtain ⟨m, hm0, hm⟩ := zs64_dvd l.length
  rw [← pad64_length l false] at hm
  have hz := zs64_lt l.length
  have hpl : (pad64 l false).length ≤ 4000200 := by rw [pad64_length]; omega
  have hmd : sha1 l = be4s (r5l (sha1s (pad64 l false) m)) 5 := by unfold sha1; rw [show (pad64 l false).length / 64 = m by omega]
  have HMD := Hid.mk hmd
  clear hmd
  generalize pad64 l false = p at *
  have HM := Hid.mk hm
  clear hm
  have hpb0 := o0.bs
  obtain ⟨pa, pc, rfl, hpc, hpm, -⟩ := hpb0.form
  unfold maxLen at hpm
  have AH0 : Arr (w0.alloc (.cells #[.int .u32 1732584193, .int .u32 4023233417, .int .u32 2562383102, .int .u32 271733878, .int .u32 3285377520] 152)) w0.heap.size 152 ((r5l (1732584193, 4023233417, 2562383102, 271733878, 3285377520)).map u32v) := heap_alloc_new w0 _
  have K0 := (Keep.refl w0).alloc (.cells #[.int .u32 1732584193, .int .u32 4023233417, .int .u32 2562383102, .int .u32 271733878, .int .u32 3285377520] 152)
  go_wp2_with fail
  obtain ⟨g4, hg4⟩ : ∃ g4, g4 = w0.heap.size := ⟨_, rfl⟩
  rw [← hg4] at AH0 ⊢
  have HG4 : Hid (w0.heap.size ≤ g4) := Hid.mk (by omega)
  clear hg4
  go_loopw [5] (fun ov wr => ∃ (j : Nat) (hh : R5), j ≤ m ∧ hh = sha1s p j ∧ ov = .int .i64 (64 * j : Nat) ∧ Arr wr g4 152 ((r5l hh).map u32v) ∧ Keep w0 wr) (fun o _ => p.length - (intOf o).toNat)
  case atStart => exact ⟨0, (1732584193, 4023233417, 2562383102, 271733878, 3285377520), by omega, rfl, rfl, AH0, K0⟩
  case round =>
    clear AH0 K0
    obtain ⟨j, hh, hj, hs, rfl, AH, kw⟩ := hrel
    have HS := Hid.mk hs
    clear hs
    obtain ⟨q, hq⟩ : ∃ q, q = 64 * j := ⟨_, rfl⟩
    rw [← hq]
    by_cases hlt : j < m
    · have i0 : (q : Int) < p.length := by have := HM.out; omega
      have hqb : q + 64 ≤ p.length := by have := HM.out; omega
      have HQ := Hid.mk hq
      clear hq
      go_wp2_with (refine wpList_alloc_z (by rfl) 153 (by rfl) (List.replicate 80 (.int .u32 0)) z120 ?_)
      have AW0 : Arr (wr.alloc (.cells (List.replicate 80 (Value.int .u32 0)).toArray 153)) wr.heap.size 153 (fill32 (sc1 p q 0) 80) := Arr.new wr 153 (List.replicate 80 (.int .u32 0))
      have KA := (Keep.refl wr).alloc (.cells (List.replicate 80 (Value.int .u32 0)).toArray 153)
      have AH1 := AH.keep KA
      have K1 := kw.trans KA
      have hne : g4 ≠ wr.heap.size := by have := AH.lt; omega
      have hw6 := kw.size
      obtain ⟨g6, hg6⟩ : ∃ g6, g6 = wr.heap.size := ⟨_, rfl⟩
      rw [← hg6] at AW0 hne hw6 ⊢
      have HN := Hid.mk hne
      have HW6 := Hid.mk hw6
      clear hg6 KA AH hne hw6
      go_loopw [7] (fun iv wx => ∃ k : Nat, k ≤ 16 ∧ iv = .int .i64 k ∧ Arr wx g4 152 ((r5l hh).map u32v) ∧ Arr wx g6 153 (fill32 (sc1 p q k) 80) ∧ Keep w0 wx) (fun i _ => 16 - (intOf i).toNat)
      case atStart => exact ⟨0, by omega, rfl, AH1, AW0, K1⟩
      case round =>
        obtain ⟨k, hk, rfl, AH, AW, kx⟩ := hrel
        clear AW0 AH1 K1
        by_cases hlt2 : k < 16
        · have j0 : (k : Int) < 16 := by omega
          obtain ⟨r1, hr1⟩ : ∃ r, r = 4 * k := ⟨_, rfl⟩
          obtain ⟨r2, hr2⟩ : ∃ r, r = q + r1 := ⟨_, rfl⟩
          have f1 : IntKind.i64.wrap (4 * (k : Int)) = (r1 : Int) := by rw [IntKind.wrap_i64] <;> omega
          have f2 : IntKind.i64.wrap ((q : Int) + (r1 : Int)) = (r2 : Int) := by rw [IntKind.wrap_i64] <;> omega
          have f3 : IntKind.i64.wrap ((r2 : Int) + 4) = (r2 : Int) + 4 := by rw [IntKind.wrap_i64]; omega
          have i1 : (r2 : Int) + 4 ≤ p.length := by omega
          have i2 : (r2 : Int) ≤ pc := by omega
          have i3 : (r2 : Int) + 4 ≤ pc := by omega
          have i4 : ¬ pc = r2 := by omega
          have hpart := (hpb0.keep kx).part (i := r2) (j := r2 + 4) (by omega) (by omega) (pa.map (·.add r2)) (fun _ => rfl)
          rw [show r2 + 4 - r2 = 4 by omega] at hpart
          have hw : wbe p q k = IntKind.u32.wrap (num ((p.drop r2).take 4) : Nat) := by rw [hr2, hr1]; rfl
          have hn4 : ((p.drop r2).take 4).length = 4 := by simp; omega
          have HW := Hid.mk hw
          have hsl := sc1_length p q k
          have hc := AW.cell k
          rw [show (fill32 (sc1 p q k) 80)[k]? = some (.int .u32 0) by have := fill32_next (L := sc1 p q k) (n := 80) (by omega); rwa [hsl] at this] at hc
          have HSL := Hid.mk hsl
          clear hr1 hr2 hw hsl
          go_wp2_with fail
          refine (number_c _ _ _ hpart (by omega)).mono ?_
          rintro e w2 ⟨rfl, k2⟩
          have AW2 := AW.keep k2
          have AH2 := AH.keep k2
          have kx2 := kx.trans k2
          have hc2 := k2.cell hc
          have hf := AW2.frozen k
          generalize num ((p.drop r2).take 4) = nn at *
          go_wp2_with fail
          go_roundw
          case rel =>
            refine ⟨k + 1, by omega, by go_num, ?_, ?_, kx2.setCell HW6.out _⟩
            · exact AH2.kept (grown_set (grown_refl _ _) k _) HN.out
            · have := AW2.set k (.int .u32 (IntKind.u32.wrap (nn : Int)))
              have e := fill32_set (L := sc1 p q k) (n := 80) (by rw [HSL.out]; omega) (wbe p q k)
              rw [HSL.out] at e
              rw [sc1_succ, ← e, HW.out]
              exact this
          case measure => simp [intOf]; omega
        · have j0 : ¬ (k : Int) < 16 := by omega
          have hk16 : k = 16 := by omega
          subst hk16
          go_wp2_with fail
          go_loopw [8] (fun iv wx => ∃ k : Nat, k ≤ 64 ∧ iv = .int .i64 (k + 16 : Nat) ∧ Arr wx g4 152 ((r5l hh).map u32v) ∧ Arr wx g6 153 (fill32 (it sha1w (sc1 p q 16) k) 80) ∧ Keep w0 wx) (fun i _ => 80 - (intOf i).toNat)
          case atStart => exact ⟨0, by omega, rfl, AH, AW, kx⟩
          case round =>
            clear AH AW kx
            obtain ⟨k, hk, rfl, AH, AW, kx⟩ := hrel
            obtain ⟨t, ht⟩ : ∃ t, t = k + 16 := ⟨_, rfl⟩
            rw [← ht]
            have hLl := sha1w_length (sc1 p q 16) (sc1_length p q 16) k
            obtain ⟨L, hL⟩ : ∃ L, L = it sha1w (sc1 p q 16) k := ⟨_, rfl⟩
            rw [← hL] at hLl AW
            by_cases hlt3 : k < 64
            · have j1 : (t : Int) < 80 := by omega
              obtain ⟨t3, ht3⟩ : ∃ r, r = k + 13 := ⟨_, rfl⟩
              obtain ⟨t8, ht8⟩ : ∃ r, r = k + 8 := ⟨_, rfl⟩
              obtain ⟨t14, ht14⟩ : ∃ r, r = k + 2 := ⟨_, rfl⟩
              have f1 : IntKind.i64.wrap ((t : Int) - 3) = (t3 : Int) := by rw [IntKind.wrap_i64] <;> omega
              have f2 : IntKind.i64.wrap ((t : Int) - 8) = (t8 : Int) := by rw [IntKind.wrap_i64] <;> omega
              have f3 : IntKind.i64.wrap ((t : Int) - 14) = (t14 : Int) := by rw [IntKind.wrap_i64] <;> omega
              have f4 : IntKind.i64.wrap ((t : Int) - 16) = (k : Int) := by rw [IntKind.wrap_i64] <;> omega
              have b1 : (t3 : Int) < 80 := by omega
              have b2 : (t8 : Int) < 80 := by omega
              have b3 : (t14 : Int) < 80 := by omega
              have b4 : (k : Int) < 80 := by omega
              have c1 := AW.cell t3
              rw [fill32_get (by omega)] at c1
              have c2 := AW.cell t8
              rw [fill32_get (by omega)] at c2
              have c3 := AW.cell t14
              rw [fill32_get (by omega)] at c3
              have c4 := AW.cell k
              rw [fill32_get (by omega)] at c4
              have c5 := AW.cell t
              rw [show (fill32 L 80)[t]? = some (.int .u32 0) by have := fill32_next (L := L) (n := 80) (by omega); rwa [hLl, ← ht] at this] at c5
              have c6 := AW.frozen t
              have H3 := Hid.mk ht3
              have H8 := Hid.mk ht8
              have H14 := Hid.mk ht14
              have HTT := Hid.mk ht
              have HL := Hid.mk hL
              have HLL := Hid.mk hLl
              have n3 : Hid (t3 ≠ t ∧ t8 ≠ t ∧ t14 ≠ t ∧ k ≠ t) := Hid.mk (by omega)
              clear ht3 ht8 ht14 ht hL hLl
              go_wp2_with fail
              go_region_held3 (fun w' => w'.cell? ⟨g6, t3, none⟩ = some (.int .u32 (gt L t3)) ∧ w'.cell? ⟨g6, t8, none⟩ = some (.int .u32 (gt L t8)) ∧ w'.cell? ⟨g6, t14, none⟩ = some (.int .u32 (gt L t14)) ∧ w'.cell? ⟨g6, k, none⟩ = some (.int .u32 (gt L k)))
                (first | assumption | exact ⟨c1, c2, c3, c4⟩ | exact ⟨cell_set_ne AW c1 n3.out.1, cell_set_ne AW c2 n3.out.2.1, cell_set_ne AW c3 n3.out.2.2.1, cell_set_ne AW c4 n3.out.2.2.2⟩)
                (first
                | (go_at_call 121; refine (rotl_c _ 1 _ (by omega)).mono ?_; rintro e w4 ⟨rfl, rfl⟩))
              all_goals
                go_wp2_with fail
                go_roundw
                case rel =>
                  refine ⟨k + 1, by omega, by have := HTT.out; go_num, ?_, ?_, (kx.setCell HW6.out _).drew⟩
                  · exact Arr.drew (AH.kept (grown_set (grown_refl _ _) t _) HN.out)
                  · have e := fill32_set (L := L) (n := 80) (by rw [HLL.out]; omega) (rl (xo (xo (xo (gt L t3) (gt L t8)) (gt L t14)) (gt L k)) 1)
                    rw [HLL.out, ← HTT.out] at e
                    have := AW.set t (.int .u32 (rl (xo (xo (xo (gt L t3) (gt L t8)) (gt L t14)) (gt L k)) 1))
                    rw [e] at this
                    rw [it, ← HL.out, sha1w, ← H3.out, ← H8.out, ← H14.out]
                    exact this
                case measure => have := HTT.out; simp [intOf]; omega
            · have j1 : ¬ (t : Int) < 80 := by omega
              have hk64 : k = 64 := by omega
              subst hk64
              have hLW : L = sha1W p q := hL
              have HLW := Hid.mk hLW
              have HLL := Hid.mk hLl
              clear hLW hL ht hLl
              obtain ⟨h0, h1, h2, h3, h4⟩ := hh
              have c0 := AH.cell 0
              have c1 := AH.cell 1
              have c2 := AH.cell 2
              have c3 := AH.cell 3
              have c4 := AH.cell 4
              simp only [r5l, List.map_cons, List.map_nil, u32v, List.getElem?_cons_zero, List.getElem?_cons_succ] at c0 c1 c2 c3 c4
              go_wp2_with fail
              go_region_held3 (fun w' => w'.cell? ⟨g4, 0, none⟩ = some (.int .u32 h0) ∧ w'.cell? ⟨g4, 1, none⟩ = some (.int .u32 h1) ∧ w'.cell? ⟨g4, 2, none⟩ = some (.int .u32 h2) ∧ w'.cell? ⟨g4, 3, none⟩ = some (.int .u32 h3) ∧ w'.cell? ⟨g4, 4, none⟩ = some (.int .u32 h4)) (first | assumption | exact ⟨c0, c1, c2, c3, c4⟩) (fail)
              go_wp2_with fail
              go_loopw [9, 10, 11, 12, 13, 14] (fun av bv cv dv ev iv wx => ∃ (k : Nat) (t : R5), k ≤ 80 ∧ t = it (sha1f L) (h0, h1, h2, h3, h4) k ∧ iv = .int .i64 k ∧ av = .int .u32 t.1 ∧ bv = .int .u32 t.2.1 ∧ cv = .int .u32 t.2.2.1 ∧ dv = .int .u32 t.2.2.2.1 ∧ ev = .int .u32 t.2.2.2.2 ∧ Arr wx g4 152 ((r5l (h0, h1, h2, h3, h4)).map u32v) ∧ Arr wx g6 153 (fill32 L 80) ∧ Keep w0 wx) (fun _ _ _ _ _ i _ => 80 - (intOf i).toNat)
              case atStart => exact ⟨0, (h0, h1, h2, h3, h4), by omega, rfl, rfl, rfl, rfl, rfl, rfl, rfl, AH, AW, kx.drew⟩
              case round =>
                clear AH AW kx c0 c1 c2 c3 c4
                obtain ⟨k, ⟨a, b, c, d, e'⟩, hk, ht, rfl, rfl, rfl, rfl, rfl, rfl, AH, AW, kx⟩ := hrel
                have HT := Hid.mk ht
                clear ht
                by_cases hlt4 : k < 80
                · have j2 : (k : Int) < 80 := by omega
                  have hc := AW.cell k
                  rw [fill32_get (by rw [HLL.out]; omega)] at hc
                  rcases (show k / 20 = 0 ∨ k / 20 = 1 ∨ k / 20 = 2 ∨ k / 20 = 3 by omega) with hd0 | hd1 | hd2 | hd3
                  · have f0 : (k : Int).tdiv 20 = 0 := by have := (Int.ofNat_tdiv k 20).symm; rw [hd0] at this; exact this
                    have HD := Hid.mk hd0
                    clear hd0
                    go_wp2_with fail
                    go_region_held3 (fun w' => w'.cell? ⟨g6, k, none⟩ = some (.int .u32 (gt L k))) (first | assumption | exact hc)
                      (first
                      | (go_at_call 121; refine (rotl_c _ 5 _ (by omega)).mono ?_; rintro e w4 ⟨rfl, rfl⟩))
                    all_goals
                      go_wp2_with fail
                      refine (rotl_c _ 30 _ (by omega)).mono ?_
                      rintro e w5 ⟨rfl, rfl⟩
                      go_wp2_with fail
                      go_roundw
                      case rel => exact ⟨k + 1, sha1f L k (a, b, c, d, e'), by omega, by rw [it, ← HT.out], by go_num, by simp only [sha1f, HD.out, sha1g], by simp only [sha1f, HD.out, sha1g], by simp only [sha1f, HD.out, sha1g], by simp only [sha1f, HD.out, sha1g], by simp only [sha1f, HD.out, sha1g], AH, AW, kx.drew⟩
                      case measure => simp [intOf]; omega
                  · have f0 : (k : Int).tdiv 20 = 1 := by have := (Int.ofNat_tdiv k 20).symm; rw [hd1] at this; exact this
                    have HD := Hid.mk hd1
                    clear hd1
                    go_wp2_with fail
                    go_region_held3 (fun w' => w'.cell? ⟨g6, k, none⟩ = some (.int .u32 (gt L k))) (first | assumption | exact hc)
                      (first
                      | (go_at_call 121; refine (rotl_c _ 5 _ (by omega)).mono ?_; rintro e w4 ⟨rfl, rfl⟩))
                    all_goals
                      go_wp2_with fail
                      refine (rotl_c _ 30 _ (by omega)).mono ?_
                      rintro e w5 ⟨rfl, rfl⟩
                      go_wp2_with fail
                      go_roundw
                      case rel => exact ⟨k + 1, sha1f L k (a, b, c, d, e'), by omega, by rw [it, ← HT.out], by go_num, by simp only [sha1f, HD.out, sha1g], by simp only [sha1f, HD.out, sha1g], by simp only [sha1f, HD.out, sha1g], by simp only [sha1f, HD.out, sha1g], by simp only [sha1f, HD.out, sha1g], AH, AW, kx.drew⟩
                      case measure => simp [intOf]; omega
                  · have f0 : (k : Int).tdiv 20 = 2 := by have := (Int.ofNat_tdiv k 20).symm; rw [hd2] at this; exact this
                    have HD := Hid.mk hd2
                    clear hd2
                    go_wp2_with fail
                    go_region_held3 (fun w' => w'.cell? ⟨g6, k, none⟩ = some (.int .u32 (gt L k))) (first | assumption | exact hc)
                      (first
                      | (go_at_call 121; refine (rotl_c _ 5 _ (by omega)).mono ?_; rintro e w4 ⟨rfl, rfl⟩))
                    all_goals
                      go_wp2_with fail
                      refine (rotl_c _ 30 _ (by omega)).mono ?_
                      rintro e w5 ⟨rfl, rfl⟩
                      go_wp2_with fail
                      go_roundw
                      case rel => exact ⟨k + 1, sha1f L k (a, b, c, d, e'), by omega, by rw [it, ← HT.out], by go_num, by simp only [sha1f, HD.out, sha1g], by simp only [sha1f, HD.out, sha1g], by simp only [sha1f, HD.out, sha1g], by simp only [sha1f, HD.out, sha1g], by simp only [sha1f, HD.out, sha1g], AH, AW, kx.drew⟩
                      case measure => simp [intOf]; omega
                  · have f0 : (k : Int).tdiv 20 = 3 := by have := (Int.ofNat_tdiv k 20).symm; rw [hd3] at this; exact this
                    have HD := Hid.mk hd3
                    clear hd3
                    go_wp2_with fail
                    go_region_held3 (fun w' => w'.cell? ⟨g6, k, none⟩ = some (.int .u32 (gt L k))) (first | assumption | exact hc)
                      (first
                      | (go_at_call 121; refine (rotl_c _ 5 _ (by omega)).mono ?_; rintro e w4 ⟨rfl, rfl⟩))
                    all_goals
                      go_wp2_with fail
                      refine (rotl_c _ 30 _ (by omega)).mono ?_
                      rintro e w5 ⟨rfl, rfl⟩
                      go_wp2_with fail
                      go_roundw
                      case rel => exact ⟨k + 1, sha1f L k (a, b, c, d, e'), by omega, by rw [it, ← HT.out], by go_num, by simp only [sha1f, HD.out, sha1g], by simp only [sha1f, HD.out, sha1g], by simp only [sha1f, HD.out, sha1g], by simp only [sha1f, HD.out, sha1g], by simp only [sha1f, HD.out, sha1g], AH, AW, kx.drew⟩
                      case measure => simp [intOf]; omega
                · have j2 : ¬ (k : Int) < 80 := by omega
                  have hk80 : k = 80 := by omega
                  subst hk80
                  have c0 := AH.cell 0
                  have c1 := AH.cell 1
                  have c2 := AH.cell 2
                  have c3 := AH.cell 3
                  have c4 := AH.cell 4
                  simp only [r5l, List.map_cons, List.map_nil, u32v, List.getElem?_cons_zero, List.getElem?_cons_succ] at c0 c1 c2 c3 c4
                  have z0 := AH.frozen 0
                  have z1 := AH.frozen 1
                  have z2 := AH.frozen 2
                  have z3 := AH.frozen 3
                  have z4 := AH.frozen 4
                  go_wp2_with fail
                  go_roundw
                  case rel =>
                    refine ⟨j + 1, sha1blk p q (h0, h1, h2, h3, h4), by omega, by rw [HQ.out, HS.out]; rfl, by have := HQ.out; go_num, ?_, ((((kx.setCell HG4.out _).setCell HG4.out _).setCell HG4.out _).setCell HG4.out _).setCell HG4.out _⟩
                    unfold sha1blk
                    rw [← HLW.out, ← HT.out, add5_l]
                    exact ((((AH.set 0 _).set 1 _).set 2 _).set 3 _).set 4 _
                  case measure => have := HM.out; simp [intOf]; omega
    · have i0 : ¬ (q : Int) < p.length := by have := HM.out; omega
      have hjm : j = m := by omega
      subst hjm
      clear hq
      generalize hH : r5l hh = H at AH
      have hHl : H.length = 5 := by rw [← hH]; rfl
      have HH := Hid.mk hH
      have HHL := Hid.mk hHl
      clear hH hHl
      go_wp2_with fail
      have O0 : Own w0.heap.size 5 (wr.alloc (.cells #[] 5)) (.slice (some ⟨wr.heap.size, 0, none⟩) 0 0) ((be4s H 0).map cb) := Own.lit (B := w0.heap.size) (e := 5) (w := wr) [] kw.size (by simp)
      have KA := (Keep.refl wr).alloc (.cells #[] 5)
      have AH1 := AH.keep KA
      have K1 := kw.trans KA
      clear KA AH
      go_loopw [18, 19] (fun ov iv wx => ∃ k : Nat, k ≤ 5 ∧ iv = .int .i64 k ∧ Own w0.heap.size 5 wx ov ((be4s H k).map cb) ∧ Arr wx g4 152 (H.map u32v) ∧ Keep w0 wx) (fun _ i _ => 5 - (intOf i).toNat)
      case atStart => exact ⟨0, by omega, rfl, O0, AH1, K1⟩
      case round =>
        clear O0 AH1 K1
        obtain ⟨k, hk, rfl, ow, AH, kx⟩ := hrel
        by_cases hlt5 : k < 5
        · have j0 : (k : Int) < 5 := by omega
          have hc := AH.cell k
          rw [get32 (by rw [HHL.out]; omega)] at hc
          have hn := n64_eq (gt H k)
          go_wp2_with fail
          refine (digits4_c (gt H k) _).mono ?_
          rintro e w2 ⟨dv, rfl, o2, k2⟩
          go_wp2_with fail
          refine (join_c _ _ (be4s H k) (dig (n64 (gt H k)) 4) _ (ow.bs.keep k2) o2.bs (by rw [be4s_length, dig_length]; omega)).mono ?_
          rintro e w3 ⟨jv, rfl, o3, k3⟩
          go_wp2_with fail
          go_roundw
          case rel => exact ⟨k + 1, by omega, by go_num, by rw [be4s_succ]; exact o3.mono (kx.trans k2).size, AH.keep (k2.trans k3), kx.trans (k2.trans k3)⟩
          case measure => simp [intOf]; omega
        · have j0 : ¬ (k : Int) < 5 := by omega
          have hk5 : k = 5 := by omega
          subst hk5
          go_wp2
          go_ret
          exact ⟨_, rfl, by rw [HMD.out, ← HS.out, HH.out]; exact ow.mono k0.size, k0.trans kx⟩
end Go.Proofs.Qxb6500771aGreat
