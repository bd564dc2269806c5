/- digestm.md5. -/
import Derived.Test.Qxb6500769aMd4
import Derived.Test.Qxb6500769aTab
namespace Go.Proofs.Qxb6500769a
open Go.RowKit Go.Qm
set_option linter.unusedVariables false
set_option linter.unusedSimpArgs false
attribute [local go_sem ↓] Go.wp_at_zero Go.wp_at_succ

def sinT (k : Nat) : Int := sinesT.getD k 0
theorem sines_get (k : Nat) (h : k < 64) : (sinesT.map u32v)[k]? = some (.int .u32 (sinT k)) := by
  have h' : k < sinesT.length := by rw [sinesT_length]; exact h
  simp [sinT, List.getD, h', u32v]
def md5f (l : List UInt8) (k : Nat) (a b c d f x : Int) (n : Nat) : R4 := (d, wr32 (b + rl (wr32 (wr32 (wr32 (a + f) + x) + sinT k)) n), b, c)
def md5a (l : List UInt8) (k : Nat) : R4 → R4
  | (a, b, c, d) => match k / 16 with
    | 0 => md5f l k a b c d (orr (an b c) (an (no b) d)) (wle l k) (pk k 7 12 17 22)
    | 1 => md5f l k a b c d (orr (an b d) (bits .andNot .u32 c d)) (wle l ((1 + 5 * k) % 16)) (pk k 5 9 14 20)
    | 2 => md5f l k a b c d (xo (xo b c) d) (wle l ((5 + 3 * k) % 16)) (pk k 4 11 16 23)
    | _ => md5f l k a b c d (xo c (orr b (no d))) (wle l ((7 * k) % 16)) (pk k 6 10 15 21)
theorem md5a_1 (l : List UInt8) (k : Nat) (s : R4) : (md5a l k s).1 = s.2.2.2 := by
  obtain ⟨a, b, c, d⟩ := s; simp only [md5a]; split <;> rfl
theorem md5a_3 (l : List UInt8) (k : Nat) (s : R4) : (md5a l k s).2.2.1 = s.2.1 := by
  obtain ⟨a, b, c, d⟩ := s; simp only [md5a]; split <;> rfl
theorem md5a_4 (l : List UInt8) (k : Nat) (s : R4) : (md5a l k s).2.2.2 = s.2.2.1 := by
  obtain ⟨a, b, c, d⟩ := s; simp only [md5a]; split <;> rfl
def md5blk (l : List UInt8) (s : R4) : R4 := addR (it (md5a l) s 64) s
def md5s (p : List UInt8) (j : Nat) : R4 := it (fun j s => md5blk ((p.drop (64 * j)).take 64) s) (1732584193, 4023233417, 2562383102, 271733878) j
def md5 (l : List UInt8) : List UInt8 := sp4 (md5s (pad64 l true) ((pad64 l true).length / 64))
set_option maxRecDepth 1200 in
set_option maxHeartbeats 4000000 in
theorem md5_c (v : Value) (l : List UInt8) (w : World) (h : Bs w v l) (hl : l.length ≤ 1000000) : Calls Try.prog 81 #[v] w fun e w' => ∃ v', e = .returned v' ∧ Own w.heap.size 5 w' v' ((md5 l).map cb) ∧ Keep w w' := by
  go_enter Try.func81, Try.ntmps81
  go_wp2_with fail
  refine (padded64_c v l true w h hl).mono ?_
  rintro e w0 ⟨pv, rfl, o0, k0⟩
  obtain ⟨m, hm0, hm⟩ := zs64_dvd l.length
  rw [← pad64_length l true] at hm
  have hz := zs64_lt l.length
  have hpl : (pad64 l true).length ≤ 1000200 := by rw [pad64_length]; omega
  have hmd : md5 l = sp4 (md5s (pad64 l true) m) := by unfold md5; rw [show (pad64 l true).length / 64 = m by omega]
  have HMD := Hid.mk hmd
  clear hmd
  generalize pad64 l true = p at *
  have HM := Hid.mk hm
  clear hm
  go_wp2_with fail
  refine (sines_c w0).mono ?_
  rintro e wt ⟨rfl, kt⟩
  have hs64 : (sinesT.map u32v).length = 64 := by rw [List.length_map, sinesT_length]
  have HS64 := Hid.mk hs64
  clear hs64
  go_wp2_with (first
    | (refine wpList_alloc_z (by rfl) 117 (by rfl) (List.replicate 64 (.int .u32 0)) z117 ?_)
    | (refine wpList_store_row (by rfl) 117 (.tmp 4) (.tmp 21) (by rfl) wt.heap.size (sinesT.map u32v).toArray (by rfl) (by rfl) 117 _ (Arr.new wt 117 _) (by rw [List.size_toArray, HS64.out]; exact s117) (by simp [HS64.out]) sinesT_one ?_))
  have AT0 := (Arr.new wt 117 (List.replicate 64 (Value.int .u32 0))).row (sinesT.map u32v)
  have K0 : Keep wt ((wt.alloc (.cells (List.replicate 64 (Value.int .u32 0)).toArray 117)).setRow wt.heap.size (sinesT.map u32v).toArray) := ((Keep.refl wt).alloc _).setRow (Nat.le_refl _) _
  obtain ⟨g4, hg4⟩ : ∃ g4, g4 = wt.heap.size := ⟨_, rfl⟩
  rw [← hg4] at AT0 K0 ⊢
  clear hg4
  obtain ⟨w1, hw1⟩ : ∃ w1, w1 = (wt.alloc (.cells (List.replicate 64 (Value.int .u32 0)).toArray 117)).setRow g4 (sinesT.map u32v).toArray := ⟨_, rfl⟩
  rw [← hw1] at AT0 K0
  have HW1 := Hid.mk hw1
  clear hw1
  have k1 := k0.trans (kt.trans K0)
  have hpb := o0.bs.keep (kt.trans K0)
  obtain ⟨pa, pc, rfl, hpc, hpm, -⟩ := hpb.form
  unfold maxLen at hpm
  go_loopw [5, 6, 7, 8, 9] (fun av bv cv dv ov wr => ∃ (j : Nat) (s : R4), j ≤ m ∧ s = md5s p j ∧ ov = .int .i64 (64 * j : Nat) ∧ av = .int .u32 s.1 ∧ bv = .int .u32 s.2.1 ∧ cv = .int .u32 s.2.2.1 ∧ dv = .int .u32 s.2.2.2 ∧ Arr wr g4 117 (sinesT.map u32v) ∧ Keep w1 wr) (fun _ _ _ _ o _ => p.length - (intOf o).toNat)
  case atStart => exact ⟨0, (1732584193, 4023233417, 2562383102, 271733878), by omega, rfl, rfl, rfl, rfl, rfl, rfl, by have := HW1.out; subst this; exact AT0, by have := HW1.out; subst this; exact Keep.refl _⟩
  case round =>
    clear AT0
    obtain ⟨j, s, hj, hs, rfl, rfl, rfl, rfl, rfl, AT1, kw⟩ := hrel
    have HS := Hid.mk hs
    clear hs
    obtain ⟨q, hq⟩ : ∃ q, q = 64 * j := ⟨_, rfl⟩
    rw [← hq]
    by_cases hlt : j < m
    · have hm := HM.out
      have i0 : (q : Int) < p.length := by omega
      have i1 : (q : Int) + 64 ≤ p.length := by omega
      have i2 : (q : Int) ≤ pc := by omega
      have i3 : (q : Int) + 64 ≤ pc := by omega
      have i4 : ¬ pc = q := by omega
      have hpart := (hpb.keep kw).part (i := q) (j := q + 64) (by omega) (by omega) (pa.map (·.add q)) (fun _ => rfl)
      rw [show q + 64 - q = 64 by omega] at hpart
      have hn64 : ((p.drop q).take 64).length = 64 := by simp; omega
      obtain ⟨blk, hblk⟩ : ∃ b, b = (p.drop q).take 64 := ⟨_, rfl⟩
      rw [← hblk] at hpart hn64
      rw [hq] at hblk
      have HB := Hid.mk hblk
      have HQ := Hid.mk hq
      clear hq hblk hm
      go_wp2_with fail
      refine (wordsLE_c _ _ _ hpart hn64).mono ?_
      rintro e w2 ⟨rfl, k2⟩
      have hwl := wles_length blk 16 (by omega)
      have hone : (wles blk 16).toArray.all (·.oneCell') = true := by simp [wles, u32v, Value.oneCell']
      have HL := Hid.mk hwl
      clear hwl
      go_wp2_with (first
        | (refine wpList_alloc_z (by rfl) 113 (by rfl) (List.replicate 16 (.int .u32 0)) z113 ?_)
        | (refine wpList_store_row (by rfl) 113 (.tmp 10) (.tmp 33) (by rfl) w2.heap.size (wles blk 16).toArray (by rfl) (by rfl) 113 _ (Arr.new w2 113 _) (by rw [List.size_toArray, HL.out]; exact s113) (by simp [HL.out]) hone ?_))
      have A2 := (Arr.new w2 113 (List.replicate 16 (Value.int .u32 0))).row (wles blk 16)
      have KK : Keep w2 ((w2.alloc (.cells (List.replicate 16 (Value.int .u32 0)).toArray 113)).setRow w2.heap.size (wles blk 16).toArray) := ((Keep.refl w2).alloc _).setRow (Nat.le_refl _) _
      have K2 := (kw.trans k2).trans KK
      have AT2 := AT1.keep (k2.trans KK)
      clear KK
      obtain ⟨g9, hg9⟩ : ∃ g9, g9 = w2.heap.size := ⟨_, rfl⟩
      rw [← hg9] at A2 K2 AT2 ⊢
      clear hg9 AT1
      go_loopw [5, 6, 7, 8, 15] (fun av bv cv dv iv wx => ∃ (k : Nat) (t : R4), k ≤ 64 ∧ t = it (md5a blk) s k ∧ iv = .int .i64 k ∧ av = .int .u32 t.1 ∧ bv = .int .u32 t.2.1 ∧ cv = .int .u32 t.2.2.1 ∧ dv = .int .u32 t.2.2.2 ∧ Arr wx g9 113 (wles blk 16) ∧ Arr wx g4 117 (sinesT.map u32v) ∧ Keep w1 wx) (fun _ _ _ _ i _ => 64 - (intOf i).toNat)
      case atStart => exact ⟨0, s, by omega, rfl, rfl, rfl, rfl, rfl, rfl, A2, AT2, K2⟩
      case round =>
        clear AT2
        obtain ⟨k, ⟨a, b, c, d⟩, hk, ht, rfl, rfl, rfl, rfl, rfl, AX, AT, kx⟩ := hrel
        have HT := Hid.mk ht
        clear ht
        by_cases hlt2 : k < 64
        · have j0 : (k : Int) < 64 := by omega
          have hT := AT.cell k
          rw [sines_get k hlt2] at hT
          rcases (show k / 16 = 0 ∨ k / 16 = 1 ∨ k / 16 = 2 ∨ k / 16 = 3 by omega) with hd0 | hd1 | hd2 | hd3
          · have hd : k / 16 = 0 := hd0
            have f0 : (k : Int).tdiv 16 = 0 := by have := (Int.ofNat_tdiv k 16).symm; rw [hd] at this; exact this
            have HD := Hid.mk hd
            have f5 : (k : Int) < 16 := by omega
            have f6 : k < 16 := by omega
            have HX := Hid.mk (Eq.refl k)
            have hc := AX.cell k
            rw [wles_get blk k f6] at hc
            obtain ⟨pn, hpn⟩ : ∃ pn, pn = pk k 7 12 17 22 := ⟨_, rfl⟩
            have hpk : pn ≤ 32 := by rw [hpn]; exact pk_le (by omega) (by omega) (by omega) (by omega)
            have PK := fun W => pick_c k 7 12 17 22 W (by omega)
            rw [← hpn] at PK
            have HP := Hid.mk hpn
            clear hpn hd hd0
            go_wp2_with fail
            refine (PK _).mono ?_
            rintro e w3 ⟨rfl, rfl⟩
            go_wp2_with fail
            go_region_held3 (fun w' => w'.cell? ⟨g9, k, none⟩ = some (.int .u32 (wle blk k)) ∧ w'.cell? ⟨g4, k, none⟩ = some (.int .u32 (sinT k))) (first | assumption | exact ⟨hc, hT⟩)
              (first
              | (go_at_call 104; refine (rotl_c _ pn _ hpk).mono ?_; rintro e w4 ⟨rfl, rfl⟩))
            all_goals
              go_wp2_with fail
              go_roundw
              case rel => exact ⟨k + 1, md5a blk k (a, b, c, d), by omega, by rw [it, ← HT.out], by go_num, by rw [md5a_1], by simp only [md5a, HD.out, md5f]; rw [HP.out], by rw [md5a_3], by rw [md5a_4], AX, AT, kx.drew⟩
              case measure => simp [intOf]; omega
          · have hd : k / 16 = 1 := hd1
            have f0 : (k : Int).tdiv 16 = 1 := by have := (Int.ofNat_tdiv k 16).symm; rw [hd] at this; exact this
            have HD := Hid.mk hd
            obtain ⟨r1, hr1⟩ : ∃ r, r = 5 * k := ⟨_, rfl⟩
            have f1 : IntKind.i64.wrap (5 * (k : Int)) = (r1 : Int) := by rw [IntKind.wrap_i64] <;> omega
            obtain ⟨r2, hr2⟩ : ∃ r, r = 1 + r1 := ⟨_, rfl⟩
            have f2 : IntKind.i64.wrap (1 + (r1 : Int)) = (r2 : Int) := by rw [IntKind.wrap_i64] <;> omega
            obtain ⟨ix, hx⟩ : ∃ r, r = r2 % 16 := ⟨_, rfl⟩
            have f3 : (r2 : Int).tmod 16 = (ix : Int) := by rw [hx]; exact (Int.ofNat_tmod r2 16).symm
            have hix : ix = (1 + 5 * k) % 16 := by omega
            have f5 : (ix : Int) < 16 := by omega
            have f6 : ix < 16 := by omega
            have HX := Hid.mk hix
            clear hr1 hr2 hx hix
            have hc := AX.cell ix
            rw [wles_get blk ix f6] at hc
            obtain ⟨pn, hpn⟩ : ∃ pn, pn = pk k 5 9 14 20 := ⟨_, rfl⟩
            have hpk : pn ≤ 32 := by rw [hpn]; exact pk_le (by omega) (by omega) (by omega) (by omega)
            have PK := fun W => pick_c k 5 9 14 20 W (by omega)
            rw [← hpn] at PK
            have HP := Hid.mk hpn
            clear hpn hd hd1
            go_wp2_with fail
            refine (PK _).mono ?_
            rintro e w3 ⟨rfl, rfl⟩
            go_wp2_with fail
            go_region_held3 (fun w' => w'.cell? ⟨g9, ix, none⟩ = some (.int .u32 (wle blk ix)) ∧ w'.cell? ⟨g4, k, none⟩ = some (.int .u32 (sinT k))) (first | assumption | exact ⟨hc, hT⟩)
              (first
              | (go_at_call 104; refine (rotl_c _ pn _ hpk).mono ?_; rintro e w4 ⟨rfl, rfl⟩))
            all_goals
              go_wp2_with fail
              go_roundw
              case rel => exact ⟨k + 1, md5a blk k (a, b, c, d), by omega, by rw [it, ← HT.out], by go_num, by rw [md5a_1], by simp only [md5a, HD.out, md5f]; rw [HX.out, HP.out], by rw [md5a_3], by rw [md5a_4], AX, AT, kx.drew⟩
              case measure => simp [intOf]; omega
          · have hd : k / 16 = 2 := hd2
            have f0 : (k : Int).tdiv 16 = 2 := by have := (Int.ofNat_tdiv k 16).symm; rw [hd] at this; exact this
            have HD := Hid.mk hd
            obtain ⟨r1, hr1⟩ : ∃ r, r = 3 * k := ⟨_, rfl⟩
            have f1 : IntKind.i64.wrap (3 * (k : Int)) = (r1 : Int) := by rw [IntKind.wrap_i64] <;> omega
            obtain ⟨r2, hr2⟩ : ∃ r, r = 5 + r1 := ⟨_, rfl⟩
            have f2 : IntKind.i64.wrap (5 + (r1 : Int)) = (r2 : Int) := by rw [IntKind.wrap_i64] <;> omega
            obtain ⟨ix, hx⟩ : ∃ r, r = r2 % 16 := ⟨_, rfl⟩
            have f3 : (r2 : Int).tmod 16 = (ix : Int) := by rw [hx]; exact (Int.ofNat_tmod r2 16).symm
            have hix : ix = (5 + 3 * k) % 16 := by omega
            have f5 : (ix : Int) < 16 := by omega
            have f6 : ix < 16 := by omega
            have HX := Hid.mk hix
            clear hr1 hr2 hx hix
            have hc := AX.cell ix
            rw [wles_get blk ix f6] at hc
            obtain ⟨pn, hpn⟩ : ∃ pn, pn = pk k 4 11 16 23 := ⟨_, rfl⟩
            have hpk : pn ≤ 32 := by rw [hpn]; exact pk_le (by omega) (by omega) (by omega) (by omega)
            have PK := fun W => pick_c k 4 11 16 23 W (by omega)
            rw [← hpn] at PK
            have HP := Hid.mk hpn
            clear hpn hd hd2
            go_wp2_with fail
            refine (PK _).mono ?_
            rintro e w3 ⟨rfl, rfl⟩
            go_wp2_with fail
            go_region_held3 (fun w' => w'.cell? ⟨g9, ix, none⟩ = some (.int .u32 (wle blk ix)) ∧ w'.cell? ⟨g4, k, none⟩ = some (.int .u32 (sinT k))) (first | assumption | exact ⟨hc, hT⟩)
              (first
              | (go_at_call 104; refine (rotl_c _ pn _ hpk).mono ?_; rintro e w4 ⟨rfl, rfl⟩))
            all_goals
              go_wp2_with fail
              go_roundw
              case rel => exact ⟨k + 1, md5a blk k (a, b, c, d), by omega, by rw [it, ← HT.out], by go_num, by rw [md5a_1], by simp only [md5a, HD.out, md5f]; rw [HX.out, HP.out], by rw [md5a_3], by rw [md5a_4], AX, AT, kx.drew⟩
              case measure => simp [intOf]; omega
          · have hd : k / 16 = 3 := hd3
            have f0 : (k : Int).tdiv 16 = 3 := by have := (Int.ofNat_tdiv k 16).symm; rw [hd] at this; exact this
            have HD := Hid.mk hd
            obtain ⟨r1, hr1⟩ : ∃ r, r = 7 * k := ⟨_, rfl⟩
            have f1 : IntKind.i64.wrap (7 * (k : Int)) = (r1 : Int) := by rw [IntKind.wrap_i64] <;> omega
            obtain ⟨ix, hx⟩ : ∃ r, r = r1 % 16 := ⟨_, rfl⟩
            have f3 : (r1 : Int).tmod 16 = (ix : Int) := by rw [hx]; exact (Int.ofNat_tmod r1 16).symm
            have hix : ix = (7 * k) % 16 := by omega
            have f5 : (ix : Int) < 16 := by omega
            have f6 : ix < 16 := by omega
            have HX := Hid.mk hix
            clear hr1 hx hix
            have hc := AX.cell ix
            rw [wles_get blk ix f6] at hc
            obtain ⟨pn, hpn⟩ : ∃ pn, pn = pk k 6 10 15 21 := ⟨_, rfl⟩
            have hpk : pn ≤ 32 := by rw [hpn]; exact pk_le (by omega) (by omega) (by omega) (by omega)
            have PK := fun W => pick_c k 6 10 15 21 W (by omega)
            rw [← hpn] at PK
            have HP := Hid.mk hpn
            clear hpn hd hd3
            go_wp2_with fail
            refine (PK _).mono ?_
            rintro e w3 ⟨rfl, rfl⟩
            go_wp2_with fail
            go_region_held3 (fun w' => w'.cell? ⟨g9, ix, none⟩ = some (.int .u32 (wle blk ix)) ∧ w'.cell? ⟨g4, k, none⟩ = some (.int .u32 (sinT k))) (first | assumption | exact ⟨hc, hT⟩)
              (first
              | (go_at_call 104; refine (rotl_c _ pn _ hpk).mono ?_; rintro e w4 ⟨rfl, rfl⟩))
            all_goals
              go_wp2_with fail
              go_roundw
              case rel => exact ⟨k + 1, md5a blk k (a, b, c, d), by omega, by rw [it, ← HT.out], by go_num, by rw [md5a_1], by simp only [md5a, HD.out, md5f]; rw [HX.out, HP.out], by rw [md5a_3], by rw [md5a_4], AX, AT, kx.drew⟩
              case measure => simp [intOf]; omega
        · have j0 : ¬ (k : Int) < 64 := by omega
          have hk16 : k = 64 := by omega
          subst hk16
          go_wp2_with fail
          go_roundw
          case rel =>
            refine ⟨j + 1, md5blk blk s, by omega, by rw [HB.out, HS.out]; rfl, by have := HQ.out; go_num, ?_, ?_, ?_, ?_, AT, kx⟩
            all_goals (unfold md5blk; rw [← HT.out]; simp only [addR, wr32, w32])
          case measure => have := HM.out; simp [intOf]; omega
    · have i0 : ¬ (q : Int) < p.length := by have := HM.out; omega
      have hjm : j = m := by omega
      subst hjm
      clear hq
      go_wp2_with fail
      refine (spellLE_c _ _ _ _ _).mono ?_
      rintro e w3 ⟨rv, rfl, o3, k3⟩
      go_wp2
      go_ret
      have kk := k1.trans kw
      exact ⟨_, rfl, by rw [HMD.out, ← HS.out]; exact o3.mono kk.size, kk.trans k3⟩
end Go.Proofs.Qxb6500769a
