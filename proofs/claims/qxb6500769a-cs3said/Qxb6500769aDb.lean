/- cipherm: AES's decryption. -/
import Derived.Test.Qxb6500769aAi
import Derived.Test.Qxb6500769aDa
namespace Go.Proofs.Qxb6500769a
open Go.RowKit Go.Qm
set_option linter.unusedVariables false
set_option linter.unusedSimpArgs false
attribute [local go_sem ↓] Go.wp_at_zero Go.wp_at_succ

def isbk (s : List UInt8) : Nat → List UInt8
  | 0 => s
  | k + 1 => (isbk s k).set k (isub8 ((isbk s k).getD k 0))
theorem isbk_length (s : List UInt8) : ∀ k, (isbk s k).length = s.length
  | 0 => rfl
  | k + 1 => by simp [isbk, isbk_length s k]
def aesX (ws s : List UInt8) (r : Nat) : List UInt8 := xorl (isbk (srb s 16) 16) ((ws.drop (16 * r)).take 16)
def aesD (ws s : List UInt8) (r : Nat) : List UInt8 := if 0 < r then mck 14 9 13 11 (aesX ws s r) 4 else aesX ws s r
def aesDK (ws : List UInt8) (rd : Nat) (blk : List UInt8) : Nat → List UInt8
  | 0 => xorl blk ((ws.drop (16 * rd)).take 16)
  | k + 1 => aesD ws (aesDK ws rd blk k) (rd - 1 - k)
def aesd (key blk : List UInt8) : List UInt8 := aesDK (expd key) (key.length / 4 + 6) blk (key.length / 4 + 6)
theorem aesX_length (ws s : List UInt8) (r : Nat) : (aesX ws s r).length = s.length := by
  rw [aesX, xorl_length, isbk_length, srb_length]
theorem aesDK_length (ws : List UInt8) (rd : Nat) (blk : List UInt8) (h : blk.length = 16) : ∀ k, (aesDK ws rd blk k).length = 16
  | 0 => by rw [aesDK, xorl_length]; exact h
  | k + 1 => by
    have := aesDK_length ws rd blk h k
    rw [aesDK, aesD]
    split
    · rw [mck_length, aesX_length]; exact this
    · rw [aesX_length]; exact this
theorem aesd_length (key blk : List UInt8) (h : blk.length = 16) : (aesd key blk).length = 16 := aesDK_length _ _ _ h _
set_option maxRecDepth 2000 in
set_option maxHeartbeats 4000000 in
theorem aesDecrypt_c (kv bv : Value) (key blk : List UInt8) (nk : Nat) (w : World) (hk : Bs w kv key) (hb : Bs w bv blk) (hl : key.length = 4 * nk) (hnk : nk = 4 ∨ nk = 8) (hbl : blk.length = 16) :
    Calls Try.prog 60 #[kv, bv] w fun e w' => ∃ v', e = .returned v' ∧ Own w.heap.size 5 w' v' ((aesd key blk).map cb) ∧ Keep w w' := by
  obtain ⟨ka, kc, rfl, -, hkm, -⟩ := hk.form
  obtain ⟨ba, bc, rfl, -, hbm, -⟩ := hb.form
  unfold maxLen at hkm hbm
  have hD : aesd key blk = aesDK (expd key) (nk + 6) blk (nk + 6) := by unfold aesd; rw [show key.length / 4 = nk by omega]
  have hel := expd_length key nk hl (by omega)
  have hex := expand_c _ key nk w hk hl hnk
  obtain ⟨n, hn⟩ : ∃ n, n = key.length := ⟨_, rfl⟩
  rw [← hn] at hex ⊢
  rw [hbl] at hb ⊢
  obtain ⟨rd, hrd⟩ : ∃ rd, rd = nk + 6 := ⟨_, rfl⟩
  rw [← hrd] at hD
  have hel2 : (expd key).length = 16 * (rd + 1) := by rw [hel, hrd]
  have hkl := aesDK_length (expd key) rd blk hbl
  have z1 : (n : Int) / 4 = (nk : Int) := by rw [hn, hl]; rcases hnk with rfl | rfl <;> rfl
  have z1b : IntKind.i64.wrap (nk : Int) = (nk : Int) := by rcases hnk with rfl | rfl <;> rfl
  have z1c : wrap64 (nk : Int) = (nk : Int) := IntWalk.wrap64_in _ (by rcases hnk with rfl | rfl <;> decide)
  have z2 : IntKind.i64.wrap ((nk : Int) + 6) = (rd : Int) := by rw [hrd]; rcases hnk with rfl | rfl <;> rfl
  have r14 : rd ≤ 14 := by rw [hrd]; rcases hnk with rfl | rfl <;> decide
  have r1 : 1 ≤ rd := by rw [hrd]; rcases hnk with rfl | rfl <;> decide
  have HBL := Hid.mk hbl
  have HD := Hid.mk hD
  generalize expd key = ws at *
  have HEL := Hid.mk hel2
  have HKL := Hid.mk hkl
  clear hl hbl hn hrd hD hel hel2 hkl hnk hk
  go_enter Try.func60, Try.ntmps60
  go_wp2_with fail
  refine hex.mono ?_
  rintro e w1 ⟨v1, rfl, o1, k1⟩
  clear hex
  have hws := o1.bs
  obtain ⟨pa, pc, rfl, hpc, hpm, -⟩ := hws.form
  unfold maxLen at hpm
  obtain ⟨m, hm⟩ : ∃ m, m = ws.length := ⟨_, rfl⟩
  rw [← hm] at hpc hws ⊢
  have hm16 : m = 16 * (rd + 1) := by rw [hm]; exact HEL.out
  obtain ⟨p, hp⟩ : ∃ p : Nat, p = 16 * rd := ⟨_, rfl⟩
  have e1 : IntKind.i64.wrap (16 * (rd : Int)) = (p : Int) := by rw [IntKind.wrap_i64] <;> omega
  have e2 : IntKind.i64.wrap ((p : Int) + 16) = (p : Int) + 16 := by rw [IntKind.wrap_i64] <;> omega
  have j0 : p + 16 ≤ m := by omega
  have j1 : (p : Int) + 16 ≤ m := by omega
  have j2 : (p : Int) + 16 ≤ pc := by omega
  have j3 : (p : Int) ≤ pc := by omega
  have j4 : ¬ pc = p := by omega
  have j5 : (p : Int) ≤ m := by omega
  have hpart0 := hws.part (i := p) (j := p + 16) (by omega) (by omega) (pa.map (·.add p)) (fun _ => rfl)
  rw [show p + 16 - p = 16 by omega] at hpart0
  have HPL : Hid (p + 16 ≤ ws.length) := Hid.mk (by have := HEL.out; omega)
  have hxor0 := fun W (hk : Keep w1 W) => xor_c _ _ blk ((ws.drop p).take 16) W ((hb.keep k1).keep hk) (hpart0.keep hk) (by have := HBL.out; have := HPL.out; simp; omega) (by have := HPL.out; simp; omega)
  have HM := Hid.mk hm
  have HM16 := Hid.mk hm16
  have HP := Hid.mk hp
  clear hm hm16 hp
  go_wp2_with fail
  refine (hxor0 _ (Keep.refl _)).mono ?_
  rintro e w2 ⟨v2, rfl, o2, k2⟩
  clear hxor0 hpart0 hb e1 e2 j0 j1 j2 j3 j4 j5
  go_wp2_with fail
  go_loopw [7, 8, 9] (fun sv rv iv wr => ∃ k : Nat, k ≤ rd ∧ rv = .int .i64 ((rd : Int) - 1 - k) ∧ Own w1.heap.size 5 wr sv ((aesDK ws rd blk k).map cb) ∧ Keep w1 wr) (fun _ r _ _ => (intOf r + 1).toNat)
  case atStart => exact ⟨0, by omega, by go_num, by rw [HP.out] at o2; exact o2, k2⟩
  case round => as_aux_lemma =>
    clear o2 k2
    obtain ⟨k, hkr, rfl, hown, kw⟩ := hrel
    by_cases hlt : k < rd
    · obtain ⟨r, hr⟩ : ∃ r : Nat, r = rd - 1 - k := ⟨_, rfl⟩
      have hri : (rd : Int) - 1 - k = (r : Int) := by omega
      rw [hri]
      have hrl : r < rd := by omega
      have hlt' : (0 : Int) ≤ r := by omega
      have hkl := HKL.out k
      have EX : Hid (aesDK ws rd blk (k + 1) = aesD ws (aesDK ws rd blk k) (rd - 1 - k)) := Hid.mk rfl
      rw [← hr] at EX
      have HR := Hid.mk hr
      have HRI := Hid.mk hri
      clear hr hri
      generalize aesDK ws rd blk k = s at *
      obtain ⟨q, hq⟩ : ∃ q : Nat, q = 16 * r := ⟨_, rfl⟩
      have e1 : IntKind.i64.wrap (16 * (r : Int)) = (q : Int) := by rw [IntKind.wrap_i64] <;> omega
      have e2 : IntKind.i64.wrap ((q : Int) + 16) = (q : Int) + 16 := by rw [IntKind.wrap_i64] <;> omega
      have HMB : Hid (q + 16 ≤ ws.length) := Hid.mk (by have := HEL.out; omega)
      have j0 : q + 16 ≤ m := by have := HM.out; have := HMB.out; omega
      have j1 : (q : Int) + 16 ≤ m := by omega
      have j2 : (q : Int) + 16 ≤ pc := by omega
      have j3 : (q : Int) ≤ pc := by omega
      have j4 : ¬ pc = q := by omega
      have j5 : (q : Int) ≤ m := by omega
      have hpart1 := hws.part (i := q) (j := q + 16) (by omega) j0 (pa.map (·.add q)) (fun _ => rfl)
      rw [show q + 16 - q = 16 by omega] at hpart1
      have HQ := Hid.mk hq
      have HK := Hid.mk hkl
      clear hkl hq
      have S1 := fun W (hk : Keep wr W) => shiftRowsB_c _ _ W (hown.bs.keep hk) HK.out
      go_wp2_with fail
      refine (S1 _ (Keep.refl _)).mono ?_
      rintro e y1 ⟨v5, rfl, o5, k5⟩
      clear S1 hown
      have hs16 : (srb s 16).length = 16 := by rw [srb_length]; exact HK.out
      have KW := kw.trans k5
      rcases o5.win with ⟨-, h0⟩ | ⟨g, cap, sp, rfl, hB', hwin, hcap, hcm⟩
      · rw [h0] at hs16; simp at hs16
      have hB : w1.heap.size ≤ g := Nat.le_trans kw.size hB'
      rw [hs16]
      have HS16 := Hid.mk hs16
      have HC := Hid.mk hcap
      have hcap16 : 16 ≤ cap := by omega
      unfold maxLen at hcm
      have EAX : Hid (aesX ws s r = xorl (isbk (srb s 16) 16) ((ws.drop (16 * r)).take 16)) := Hid.mk rfl
      rw [← HQ.out] at EAX
      generalize srb s 16 = t at *
      clear hs16 hcap o5 hB'
      go_wp2_with fail
      go_loopw [9] (fun iv wx => ∃ i : Nat, i ≤ 16 ∧ iv = .int .i64 i ∧ Win wx g 5 [] (isbk t i) sp ∧ Keep w1 wx) (fun i _ => 16 - (intOf i).toNat)
      case atStart => exact ⟨0, by omega, rfl, hwin, KW⟩
      case round => as_aux_lemma =>
        clear hwin KW
        obtain ⟨i, hi, rfl, hw, kx⟩ := hrel
        by_cases hli : i < 16
        · have hli' : (i : Int) < 16 := by omega
          have hlen : (isbk t i).length = 16 := by rw [isbk_length]; exact HS16.out
          have hc := hw.cell (k := i) (o := i) (by omega) (by simp)
          have hgd : (isbk t i)[i]'(by omega) = (isbk t i).getD i 0 := by
            rw [List.getD_eq_getElem?_getD, List.getElem?_eq_getElem (by omega)]; rfl
          have EB : Hid (isbk t (i + 1) = (isbk t i).set i (isub8 ((isbk t i).getD i 0))) := Hid.mk rfl
          rw [hgd] at hc
          generalize (isbk t i).getD i 0 = x at *
          have hset := hw.set (k := i) (by omega) (isub8 x) (o := i) (by simp)
          have hf := hw.frozen i
          have C := fun W => invSubByte_c x W
          generalize isub8 x = z at *
          have HS := Hid.mk hset
          clear hset hgd hlen j0 j1 j2 j3 j4 j5 e1 e2 hpart1 hws HMB HQ hlt hlt' hpm hpc o1
          go_wp2_with fail
          refine (C _).mono ?_
          rintro e y ⟨rfl, rfl⟩
          go_wp2_with fail
          go_roundw
          case rel => exact ⟨i + 1, by omega, by go_num, by rw [EB.out]; exact HS.out, kx.setCell (by simpa using hB) _⟩
          case measure => simp [intOf]; omega
        · have hli' : ¬ (i : Int) < 16 := by omega
          have : i = 16 := by omega
          subst this
          have O1 := Own.of_win (cap := cap) hB hw (by rw [isbk_length]; exact HC.out) (by simpa [maxLen] using hcm)
          have hl16 : (isbk t 16).length = 16 := by rw [isbk_length]; exact HS16.out
          rw [hl16] at O1
          have Q := fun W (hk : Keep _ W) => xor_c _ _ (isbk t 16) ((ws.drop q).take 16) W (O1.bs.keep hk) (hpart1.keep (kx.trans hk)) (by have := HMB.out; rw [hl16, List.length_take, List.length_drop]; omega) (by rw [List.length_take, List.length_drop]; omega)
          have HL16 := Hid.mk hl16
          clear hl16 O1 hw HC
          go_wp2_with fail
          refine (Q _ (Keep.refl _)).mono ?_
          rintro e y2 ⟨v6, rfl, o6, k6⟩
          have K6 := kx.trans k6
          rw [← EAX.out] at o6
          have hx16 : (aesX ws s r).length = 16 := by rw [EAX.out, xorl_length]; exact HL16.out
          have EAD : Hid (aesD ws s r = if 0 < r then mck 14 9 13 11 (aesX ws s r) 4 else aesX ws s r) := Hid.mk rfl
          generalize aesX ws s r = u at *
          have HX16 := Hid.mk hx16
          clear hx16
          by_cases hrr : 0 < r
          · have hrr' : (0 : Int) < r := by omega
            have MX := fun W (hk : Keep y2 W) => mixColumns_c _ _ 14 9 13 11 W (o6.bs.keep hk) HX16.out
            go_wp2_with fail
            refine (MX _ (Keep.refl _)).mono ?_
            rintro e y3 ⟨v7, rfl, o7, k7⟩
            go_wp2_with fail
            go_roundw
            case rel =>
              refine ⟨k + 1, by omega, by have := HRI.out; go_num, ?_, K6.trans k7⟩
              rw [EX.out, EAD.out, if_pos hrr]
              exact o7.mono K6.size
            case measure => first | (simp [intOf]; done) | (simp [intOf]; omega)
          · have hrr' : ¬ (0 : Int) < r := by omega
            go_wp2_with fail
            go_roundw
            case rel =>
              refine ⟨k + 1, by omega, by have := HRI.out; go_num, ?_, K6⟩
              rw [EX.out, EAD.out, if_neg hrr]
              exact o6.mono kx.size
            case measure => first | (simp [intOf]; done) | (simp [intOf]; omega)
    · have hlt' : ¬ (0 : Int) ≤ (rd : Int) - 1 - k := by omega
      have hkr : Hid (k = rd) := Hid.mk (by omega)
      go_wp2
      go_ret
      refine ⟨_, rfl, ?_, k1.trans kw⟩
      rw [HD.out]
      rw [hkr.out] at hown
      exact hown.mono k1.size
end Go.Proofs.Qxb6500769a
