/- digestm.md4. -/
import Derived.Test.Qxb6500769aWle
namespace Go.Proofs.Qxb6500769a
open Go.RowKit Go.Qm
set_option linter.unusedVariables false
set_option linter.unusedSimpArgs false
attribute [local go_sem ↓] Go.wp_at_zero Go.wp_at_succ

/-- f, k times, told the number of the turn. -/
def it {α : Type} (f : Nat → α → α) (s : α) : Nat → α
  | 0 => s
  | k + 1 => f k (it f s k)
theorem wles_get (l : List UInt8) (i : Nat) (h : i < 16) : (wles l 16)[i]? = some (.int .u32 (wle l i)) := by
  simp [wles, h, u32v]
theorem w32 (x : Int) : IntKind.u32.wrap x = x % 4294967296 := by simp [IntKind.wrap, IntKind.signed, IntKind.bits]
abbrev R4 := Int × Int × Int × Int
abbrev an (x y : Int) : Int := bits .and .u32 x y
abbrev orr (x y : Int) : Int := bits .or .u32 x y
abbrev xo (x y : Int) : Int := bits .xor .u32 x y
abbrev no (x : Int) : Int := bits .xor .u32 IntKind.u32.max x
abbrev wr32 (x : Int) : Int := IntKind.u32.wrap x
def ix2 (k : Nat) : Nat := k % 4 * 4 + k / 4
def ix3 (k : Nat) : Nat := k % 2 * 8 + k / 2 % 2 * 4 + k / 4 % 2 * 2 + k / 8
def md4a (l : List UInt8) (k : Nat) : R4 → R4 | (a, b, c, d) => (d, rl (wr32 (wr32 (a + orr (an b c) (an (no b) d)) + wle l k)) (pk k 3 7 11 19), b, c)
def md4b (l : List UInt8) (k : Nat) : R4 → R4 | (a, b, c, d) => (d, rl (wr32 (wr32 (wr32 (a + orr (orr (an b c) (an b d)) (an c d)) + wle l (ix2 k)) + 1518500249)) (pk k 3 5 9 13), b, c)
def md4c (l : List UInt8) (k : Nat) : R4 → R4 | (a, b, c, d) => (d, rl (wr32 (wr32 (wr32 (a + xo (xo b c) d) + wle l (ix3 k)) + 1859775393)) (pk k 3 9 11 15), b, c)
def addR (t s : R4) : R4 := (wr32 (t.1 + s.1), wr32 (t.2.1 + s.2.1), wr32 (t.2.2.1 + s.2.2.1), wr32 (t.2.2.2 + s.2.2.2))
def md4blk (l : List UInt8) (s : R4) : R4 := addR (it (md4c l) (it (md4b l) (it (md4a l) s 16) 16) 16) s
def md4s (p : List UInt8) (j : Nat) : R4 := it (fun j s => md4blk ((p.drop (64 * j)).take 64) s) (1732584193, 4023233417, 2562383102, 271733878) j
def sp4 (s : R4) : List UInt8 := spell s.1 s.2.1 s.2.2.1 s.2.2.2
def md4 (l : List UInt8) : List UInt8 := sp4 (md4s (pad64 l true) ((pad64 l true).length / 64))
set_option maxRecDepth 1200 in
set_option maxHeartbeats 4000000 in
theorem md4_c (v : Value) (l : List UInt8) (w : World) (h : Bs w v l) (hl : l.length ≤ 1000000) : Calls Try.prog 80 #[v] w fun e w' => ∃ v', e = .returned v' ∧ Own w.heap.size 5 w' v' ((md4 l).map cb) ∧ Keep w w' := by
  go_enter Try.func80, Try.ntmps80
  go_wp2_with fail
  refine (padded64_c v l true w h hl).mono ?_
  rintro e w1 ⟨pv, rfl, o1, k1⟩
  obtain ⟨m, hm0, hm⟩ := zs64_dvd l.length
  rw [← pad64_length l true] at hm
  have hz := zs64_lt l.length
  have hpl : (pad64 l true).length ≤ 1000200 := by rw [pad64_length]; omega
  have hmd : md4 l = sp4 (md4s (pad64 l true) m) := by unfold md4; rw [show (pad64 l true).length / 64 = m by omega]
  have HMD := Hid.mk hmd
  clear hmd
  generalize pad64 l true = p at *
  have hpb := o1.bs
  obtain ⟨pa, pc, rfl, hpc, hpm, -⟩ := hpb.form
  unfold maxLen at hpm
  go_wp2_with fail
  go_loopw [4, 5, 6, 7, 8] (fun av bv cv dv ov wr => ∃ (j : Nat) (s : R4), j ≤ m ∧ s = md4s p j ∧ ov = .int .i64 (64 * j : Nat) ∧ av = .int .u32 s.1 ∧ bv = .int .u32 s.2.1 ∧ cv = .int .u32 s.2.2.1 ∧ dv = .int .u32 s.2.2.2 ∧ Keep w1 wr) (fun _ _ _ _ o _ => p.length - (intOf o).toNat)
  case atStart => exact ⟨0, (1732584193, 4023233417, 2562383102, 271733878), by omega, rfl, rfl, rfl, rfl, rfl, rfl, Keep.refl _⟩
  case round =>
    obtain ⟨j, s, hj, hs, rfl, rfl, rfl, rfl, rfl, kw⟩ := hrel
    have HS := Hid.mk hs
    clear hs
    obtain ⟨q, hq⟩ : ∃ q, q = 64 * j := ⟨_, rfl⟩
    rw [← hq]
    by_cases hlt : j < m
    · have i0 : (q : Int) < p.length := by omega
      have i1 : (q : Int) + 64 ≤ p.length := by omega
      have i2 : (q : Int) ≤ pc := by omega
      have i3 : (q : Int) + 64 ≤ pc := by omega
      have i4 : ¬ pc = q := by omega
      have hpart := (hpb.keep kw).part (i := q) (j := q + 64) (by omega) (by omega) (pa.map (·.add q)) (fun _ => rfl)
      rw [show q + 64 - q = 64 by omega] at hpart
      have hn64 : ((p.drop q).take 64).length = 64 := by simp; omega
      obtain ⟨blk, hblk⟩ : ∃ b, b = (p.drop q).take 64 := ⟨_, rfl⟩
      rw [← hblk] at hpart hn64
      rw [hq] at hblk
      have HB := Hid.mk hblk
      have HQ := Hid.mk hq
      clear hq hblk
      go_wp2_with fail
      refine (wordsLE_c _ _ _ hpart hn64).mono ?_
      rintro e w2 ⟨rfl, k2⟩
      have hwl := wles_length blk 16 (by omega)
      have hone : (wles blk 16).toArray.all (·.oneCell') = true := by simp [wles, u32v, Value.oneCell']
      have HL := Hid.mk hwl
      clear hwl
      go_wp2_with (first
        | (refine wpList_alloc_z (by rfl) 113 (by rfl) (List.replicate 16 (.int .u32 0)) z113 ?_)
        | (refine wpList_store_row (by rfl) 113 (.tmp 9) (.tmp 34) (by rfl) w2.heap.size (wles blk 16).toArray (by rfl) (by rfl) 113 _ (Arr.new w2 113 _) (by rw [List.size_toArray, HL.out]; exact s113) (by simp [HL.out]) hone ?_))
      have A2 := (Arr.new w2 113 (List.replicate 16 (Value.int .u32 0))).row (wles blk 16)
      have K2 : Keep w1 ((w2.alloc (.cells (List.replicate 16 (Value.int .u32 0)).toArray 113)).setRow w2.heap.size (wles blk 16).toArray) := ((kw.trans k2).alloc _).setRow (kw.trans k2).size _
      obtain ⟨g9, hg9⟩ : ∃ g9, g9 = w2.heap.size := ⟨_, rfl⟩
      rw [← hg9] at A2 K2 ⊢
      clear hg9
      go_loopw [4, 5, 6, 7, 14] (fun av bv cv dv iv wx => ∃ (k : Nat) (t : R4), k ≤ 16 ∧ t = it (md4a blk) (s) k ∧ iv = .int .i64 k ∧ av = .int .u32 t.1 ∧ bv = .int .u32 t.2.1 ∧ cv = .int .u32 t.2.2.1 ∧ dv = .int .u32 t.2.2.2 ∧ Arr wx g9 113 (wles blk 16) ∧ Keep w1 wx) (fun _ _ _ _ i _ => 16 - (intOf i).toNat)
      case atStart => exact ⟨0, s, by omega, rfl, rfl, rfl, rfl, rfl, rfl, A2, K2⟩
      case round =>
        obtain ⟨k, ⟨a, b, c, d⟩, hk, ht, rfl, rfl, rfl, rfl, rfl, AX, kx⟩ := hrel
        have HT := Hid.mk ht
        clear ht
        by_cases hlt2 : k < 16
        · have j0 : (k : Int) < 16 := by omega
          have hc := AX.cell k
          rw [wles_get blk k hlt2] at hc
          obtain ⟨pn, hpn⟩ : ∃ pn, pn = pk k 3 7 11 19 := ⟨_, rfl⟩
          have hpk : pn ≤ 32 := by rw [hpn]; exact pk_le (by omega) (by omega) (by omega) (by omega)
          have PK := fun W => pick_c k 3 7 11 19 W (by omega)
          rw [← hpn] at PK
          have HP := Hid.mk hpn
          clear hpn
          go_wp2_with fail
          go_region_held3 (fun w' => w'.cell? ⟨g9, k, none⟩ = some (.int .u32 (wle blk k))) (assumption)
            (first
            | (go_at_call 105; refine (PK _).mono ?_; rintro e w3 ⟨rfl, rfl⟩)
            | (go_at_call 104; refine (rotl_c _ pn _ hpk).mono ?_; rintro e w4 ⟨rfl, rfl⟩))
          all_goals
            go_wp2_with fail
            go_roundw
            case rel => exact ⟨k + 1, md4a blk k (a, b, c, d), by omega, by rw [it, ← HT.out], by go_num, rfl, by rw [HP.out]; rfl, rfl, rfl, AX, kx.drew⟩
            case measure => simp [intOf]; omega
        · have j0 : ¬ (k : Int) < 16 := by omega
          have hk16 : k = 16 := by omega
          subst hk16
          go_wp2_with fail
          go_loopw [4, 5, 6, 7, 16] (fun av bv cv dv iv wx => ∃ (k : Nat) (t : R4), k ≤ 16 ∧ t = it (md4b blk) (it (md4a blk) s 16) k ∧ iv = .int .i64 k ∧ av = .int .u32 t.1 ∧ bv = .int .u32 t.2.1 ∧ cv = .int .u32 t.2.2.1 ∧ dv = .int .u32 t.2.2.2 ∧ Arr wx g9 113 (wles blk 16) ∧ Keep w1 wx) (fun _ _ _ _ i _ => 16 - (intOf i).toNat)
          case atStart => exact ⟨0, (a, b, c, d), by omega, HT.out, rfl, rfl, rfl, rfl, rfl, AX, kx⟩
          case round =>
            obtain ⟨k, ⟨a, b, c, d⟩, hk, ht, rfl, rfl, rfl, rfl, rfl, AX, kx⟩ := hrel
            have HT := Hid.mk ht
            clear ht
            by_cases hlt2 : k < 16
            · have j0 : (k : Int) < 16 := by omega
              obtain ⟨r1, hr1⟩ : ∃ r, r = k % 4 := ⟨_, rfl⟩
              obtain ⟨r2, hr2⟩ : ∃ r, r = r1 * 4 := ⟨_, rfl⟩
              obtain ⟨r3, hr3⟩ : ∃ r, r = k / 4 := ⟨_, rfl⟩
              obtain ⟨ix, hix⟩ : ∃ r, r = r2 + r3 := ⟨_, rfl⟩
              have f1 : (k : Int).tmod 4 = (r1 : Int) := by rw [hr1]; exact (Int.ofNat_tmod k 4).symm
              have f2 : IntKind.i64.wrap ((r1 : Int) * 4) = (r2 : Int) := by rw [IntKind.wrap_i64] <;> omega
              have f3 : (k : Int).tdiv 4 = (r3 : Int) := by rw [hr3]; exact (Int.ofNat_tdiv k 4).symm
              have f4 : IntKind.i64.wrap ((r2 : Int) + (r3 : Int)) = (ix : Int) := by rw [IntKind.wrap_i64] <;> omega
              have g3 : IntKind.i64.wrap (r3 : Int) = (r3 : Int) := by rw [IntKind.wrap_i64]; omega
              have f5 : (ix : Int) < 16 := by omega
              have f6 : ix < 16 := by omega
              have hixe : ix = ix2 k := by unfold ix2; omega
              have HX := Hid.mk hixe
              clear hr1 hr2 hr3 hix hixe
              have hc := AX.cell ix
              rw [wles_get blk ix f6] at hc
              obtain ⟨pn, hpn⟩ : ∃ pn, pn = pk k 3 5 9 13 := ⟨_, rfl⟩
              have hpk : pn ≤ 32 := by rw [hpn]; exact pk_le (by omega) (by omega) (by omega) (by omega)
              have PK := fun W => pick_c k 3 5 9 13 W (by omega)
              rw [← hpn] at PK
              have HP := Hid.mk hpn
              clear hpn
              go_wp2_with fail
              go_region_held3 (fun w' => w'.cell? ⟨g9, ix, none⟩ = some (.int .u32 (wle blk ix))) (assumption)
                (first
                | (go_at_call 105; refine (PK _).mono ?_; rintro e w3 ⟨rfl, rfl⟩)
                | (go_at_call 104; refine (rotl_c _ pn _ hpk).mono ?_; rintro e w4 ⟨rfl, rfl⟩))
              all_goals
                go_wp2_with fail
                go_roundw
                case rel => exact ⟨k + 1, md4b blk k (a, b, c, d), by omega, by rw [it, ← HT.out], by go_num, rfl, by rw [HX.out]; rw [HP.out]; rfl, rfl, rfl, AX, kx.drew⟩
                case measure => simp [intOf]; omega
            · have j0 : ¬ (k : Int) < 16 := by omega
              have hk16 : k = 16 := by omega
              subst hk16
              go_wp2_with fail
              go_loopw [4, 5, 6, 7, 18] (fun av bv cv dv iv wx => ∃ (k : Nat) (t : R4), k ≤ 16 ∧ t = it (md4c blk) (it (md4b blk) (it (md4a blk) s 16) 16) k ∧ iv = .int .i64 k ∧ av = .int .u32 t.1 ∧ bv = .int .u32 t.2.1 ∧ cv = .int .u32 t.2.2.1 ∧ dv = .int .u32 t.2.2.2 ∧ Arr wx g9 113 (wles blk 16) ∧ Keep w1 wx) (fun _ _ _ _ i _ => 16 - (intOf i).toNat)
              case atStart => exact ⟨0, (a, b, c, d), by omega, HT.out, rfl, rfl, rfl, rfl, rfl, AX, kx⟩
              case round =>
                obtain ⟨k, ⟨a, b, c, d⟩, hk, ht, rfl, rfl, rfl, rfl, rfl, AX, kx⟩ := hrel
                have HT := Hid.mk ht
                clear ht
                by_cases hlt2 : k < 16
                · have j0 : (k : Int) < 16 := by omega
                  obtain ⟨r1, hr1⟩ : ∃ r, r = k % 2 := ⟨_, rfl⟩
                  obtain ⟨r2, hr2⟩ : ∃ r, r = r1 * 8 := ⟨_, rfl⟩
                  obtain ⟨r3, hr3⟩ : ∃ r, r = k / 2 := ⟨_, rfl⟩
                  obtain ⟨r4, hr4⟩ : ∃ r, r = r3 % 2 := ⟨_, rfl⟩
                  obtain ⟨r5, hr5⟩ : ∃ r, r = r4 * 4 := ⟨_, rfl⟩
                  obtain ⟨r6, hr6⟩ : ∃ r, r = r2 + r5 := ⟨_, rfl⟩
                  obtain ⟨r7, hr7⟩ : ∃ r, r = k / 4 := ⟨_, rfl⟩
                  obtain ⟨r8, hr8⟩ : ∃ r, r = r7 % 2 := ⟨_, rfl⟩
                  obtain ⟨r9, hr9⟩ : ∃ r, r = r8 * 2 := ⟨_, rfl⟩
                  obtain ⟨r10, hr10⟩ : ∃ r, r = r6 + r9 := ⟨_, rfl⟩
                  obtain ⟨r11, hr11⟩ : ∃ r, r = k / 8 := ⟨_, rfl⟩
                  obtain ⟨ix, hix⟩ : ∃ r, r = r10 + r11 := ⟨_, rfl⟩
                  have f1 : (k : Int).tmod 2 = (r1 : Int) := by rw [hr1]; exact (Int.ofNat_tmod k 2).symm
                  have f2 : IntKind.i64.wrap ((r1 : Int) * 8) = (r2 : Int) := by rw [IntKind.wrap_i64] <;> omega
                  have f3 : (k : Int).tdiv 2 = (r3 : Int) := by rw [hr3]; exact (Int.ofNat_tdiv k 2).symm
                  have f4 : (r3 : Int).tmod 2 = (r4 : Int) := by rw [hr4]; exact (Int.ofNat_tmod r3 2).symm
                  have f5 : IntKind.i64.wrap ((r4 : Int) * 4) = (r5 : Int) := by rw [IntKind.wrap_i64] <;> omega
                  have f6 : IntKind.i64.wrap ((r2 : Int) + (r5 : Int)) = (r6 : Int) := by rw [IntKind.wrap_i64] <;> omega
                  have f7 : (k : Int).tdiv 4 = (r7 : Int) := by rw [hr7]; exact (Int.ofNat_tdiv k 4).symm
                  have f8 : (r7 : Int).tmod 2 = (r8 : Int) := by rw [hr8]; exact (Int.ofNat_tmod r7 2).symm
                  have f9 : IntKind.i64.wrap ((r8 : Int) * 2) = (r9 : Int) := by rw [IntKind.wrap_i64] <;> omega
                  have f10 : IntKind.i64.wrap ((r6 : Int) + (r9 : Int)) = (r10 : Int) := by rw [IntKind.wrap_i64] <;> omega
                  have f11 : (k : Int).tdiv 8 = (r11 : Int) := by rw [hr11]; exact (Int.ofNat_tdiv k 8).symm
                  have f12 : IntKind.i64.wrap ((r10 : Int) + (r11 : Int)) = (ix : Int) := by rw [IntKind.wrap_i64] <;> omega
                  have g3 : IntKind.i64.wrap (r3 : Int) = (r3 : Int) := by rw [IntKind.wrap_i64]; omega
                  have g7 : IntKind.i64.wrap (r7 : Int) = (r7 : Int) := by rw [IntKind.wrap_i64]; omega
                  have g11 : IntKind.i64.wrap (r11 : Int) = (r11 : Int) := by rw [IntKind.wrap_i64]; omega
                  have f13 : (ix : Int) < 16 := by omega
                  have f14 : ix < 16 := by omega
                  have hixe : ix = ix3 k := by subst hix hr11 hr10 hr9 hr8 hr7 hr6 hr5 hr4 hr3 hr2 hr1; rfl
                  have HX := Hid.mk hixe
                  clear hr1 hr2 hr3 hr4 hr5 hr6 hr7 hr8 hr9 hr10 hr11 hix hixe
                  have hc := AX.cell ix
                  rw [wles_get blk ix f14] at hc
                  obtain ⟨pn, hpn⟩ : ∃ pn, pn = pk k 3 9 11 15 := ⟨_, rfl⟩
                  have hpk : pn ≤ 32 := by rw [hpn]; exact pk_le (by omega) (by omega) (by omega) (by omega)
                  have PK := fun W => pick_c k 3 9 11 15 W (by omega)
                  rw [← hpn] at PK
                  have HP := Hid.mk hpn
                  clear hpn
                  go_wp2_with fail
                  go_region_held3 (fun w' => w'.cell? ⟨g9, ix, none⟩ = some (.int .u32 (wle blk ix))) (assumption)
                    (first
                    | (go_at_call 105; refine (PK _).mono ?_; rintro e w3 ⟨rfl, rfl⟩)
                    | (go_at_call 104; refine (rotl_c _ pn _ hpk).mono ?_; rintro e w4 ⟨rfl, rfl⟩))
                  all_goals
                    go_wp2_with fail
                    go_roundw
                    case rel => exact ⟨k + 1, md4c blk k (a, b, c, d), by omega, by rw [it, ← HT.out], by go_num, rfl, by rw [HX.out]; rw [HP.out]; rfl, rfl, rfl, AX, kx.drew⟩
                    case measure => simp [intOf]; omega
                · have j0 : ¬ (k : Int) < 16 := by omega
                  have hk16 : k = 16 := by omega
                  subst hk16
                  go_wp2_with fail
                  go_roundw
                  case rel =>
                    refine ⟨j + 1, md4blk blk s, by omega, by rw [HB.out, HS.out]; rfl, by have := HQ.out; go_num, ?_, ?_, ?_, ?_, kx⟩
                    all_goals (unfold md4blk; rw [← HT.out]; simp only [addR, wr32, w32])
                  case measure => simp [intOf]; omega
    · have i0 : ¬ (q : Int) < p.length := by omega
      have hjm : j = m := by omega
      subst hjm
      clear hq
      go_wp2_with fail
      refine (spellLE_c _ _ _ _ _).mono ?_
      rintro e w3 ⟨rv, rfl, o3, k3⟩
      go_wp2
      go_ret
      have kk := k1.trans kw
      exact ⟨_, rfl, by rw [HMD.out, ← HS.out]; exact o3.mono kk.size, kk.trans k3⟩
end Go.Proofs.Qxb6500769a
