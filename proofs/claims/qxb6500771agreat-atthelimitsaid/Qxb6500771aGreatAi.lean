/- cipherm: AES's encryption. -/
import Derived.Test.Qxb6500771aGreatAg
import Derived.Test.Qxb6500771aGreatAh
namespace Go.Proofs.Qxb6500771aGreat
open Go.RowKit Go.Qm
set_option linter.unusedVariables false
set_option linter.unusedSimpArgs false
attribute [local go_sem ↓] Go.wp_at_zero Go.wp_at_succ

def sbk (s : List UInt8) : Nat → List UInt8
  | 0 => s
  | k + 1 => (sbk s k).set k (sub8 ((sbk s k).getD k 0))
theorem sbk_length (s : List UInt8) : ∀ k, (sbk s k).length = s.length
  | 0 => rfl
  | k + 1 => by simp [sbk, sbk_length s k]
def aesR (ws : List UInt8) (rd : Nat) (s : List UInt8) (r : Nat) : List UInt8 :=
  xorl (if r < rd then mck 2 1 1 3 (srk (sbk s 16) 16) 4 else srk (sbk s 16) 16) ((ws.drop (16 * r)).take 16)
def aesK (ws : List UInt8) (rd : Nat) (blk : List UInt8) : Nat → List UInt8
  | 0 => xorl blk ((ws.drop 0).take 16)
  | k + 1 => aesR ws rd (aesK ws rd blk k) (k + 1)
def aes (key blk : List UInt8) : List UInt8 := aesK (expd key) (key.length / 4 + 6) blk (key.length / 4 + 6)
theorem aesK_length (ws : List UInt8) (rd : Nat) (blk : List UInt8) (h : blk.length = 16) : ∀ k, (aesK ws rd blk k).length = 16
  | 0 => by rw [aesK, xorl_length]; exact h
  | k + 1 => by
    have := aesK_length ws rd blk h k
    rw [aesK, aesR, xorl_length]
    split
    · rw [mck_length, srk_length, sbk_length]; exact this
    · rw [srk_length, sbk_length]; exact this
theorem aes_length (key blk : List UInt8) (h : blk.length = 16) : (aes key blk).length = 16 := aesK_length _ _ _ h _
theorem expd_length (key : List UInt8) (nk : Nat) (hl : key.length = 4 * nk) (h1 : 1 ≤ nk) : (expd key).length = 16 * (nk + 7) := by
  unfold expd
  rw [show key.length / 4 = nk by omega, ex_length key nk hl h1]
  omega
set_option maxRecDepth 2000 in
set_option maxHeartbeats 4000000 in
theorem aesEncrypt_c (kv bv : Value) (key blk : List UInt8) (nk : Nat) (w : World) (hk : Bs w kv key) (hb : Bs w bv blk) (hl : key.length = 4 * nk) (hnk : nk = 4 ∨ nk = 8) (hbl : blk.length = 16) :
    Calls Tryz.prog 107 #[kv, bv] w fun e w' => ∃ v', e = .returned v' ∧ Own w.heap.size 5 w' v' ((aes key blk).map cb) ∧ Keep w w' := by
  obtain ⟨ka, kc, rfl, -, hkm, -⟩ := hk.form
  obtain ⟨ba, bc, rfl, -, hbm, -⟩ := hb.form
  unfold maxLen at hkm hbm
  have hD : aes key blk = aesK (expd key) (nk + 6) blk (nk + 6) := by unfold aes; rw [show key.length / 4 = nk by omega]
  have hel := expd_length key nk hl (by omega)
  have hex := expand_c _ key nk w hk hl hnk
  obtain ⟨n, hn⟩ : ∃ n, n = key.length := ⟨_, rfl⟩
  rw [← hn] at hex ⊢
  rw [hbl] at hb ⊢
  obtain ⟨rd, hrd⟩ : ∃ rd, rd = nk + 6 := ⟨_, rfl⟩
  rw [← hrd] at hD
  have hel2 : (expd key).length = 16 * (rd + 1) := by rw [hel, hrd]
  have hkl := aesK_length (expd key) rd blk hbl
  have z1 : (n : Int) / 4 = (nk : Int) := by rw [hn, hl]; rcases hnk with rfl | rfl <;> rfl
  have z1b : IntKind.i64.wrap (nk : Int) = (nk : Int) := by rcases hnk with rfl | rfl <;> rfl
  have z1c : wrap64 (nk : Int) = (nk : Int) := IntWalk.wrap64_in _ (by rcases hnk with rfl | rfl <;> decide)
  have z2 : IntKind.i64.wrap ((nk : Int) + 6) = (rd : Int) := by rw [hrd]; rcases hnk with rfl | rfl <;> rfl
  have r14 : rd ≤ 14 := by rw [hrd]; rcases hnk with rfl | rfl <;> decide
  have HBL := Hid.mk hbl
  have HD := Hid.mk hD
  generalize expd key = ws at *
  have HEL := Hid.mk hel2
  have HKL := Hid.mk hkl
  clear hl hbl hn hrd hD hel hel2 hkl hnk hk
  go_enter Tryz.func107, Tryz.ntmps107
  go_wp2_with fail
  refine hex.mono ?_
  rintro e w1 ⟨v1, rfl, o1, k1⟩
  clear hex
  have hws := o1.bs
  obtain ⟨pa, pc, rfl, hpc, hpm, -⟩ := hws.form
  unfold maxLen at hpm
  obtain ⟨m, hm⟩ : ∃ m, m = ws.length := ⟨_, rfl⟩
  rw [← hm] at hpc hws ⊢
  have hm16 : m = 16 * (rd + 1) := by rw [hm]; exact HEL.out
  have i1 : (16 : Int) ≤ m := by omega
  have i2 : (16 : Int) ≤ pc := by omega
  have i3 : ¬ pc = 0 := by omega
  have hpart0 := hws.part (i := 0) (j := 16) (by omega) (by omega) pa (fun _ => by cases pa <;> simp [Addr.add])
  have hxor0 := fun W (hk : Keep w1 W) => xor_c _ _ blk ((ws.drop 0).take (16 - 0)) W ((hb.keep k1).keep hk) (hpart0.keep hk) (by have := HBL.out; have := HEL.out; simp; omega) (by have := HEL.out; simp; omega)
  have HM := Hid.mk hm
  have HM16 := Hid.mk hm16
  clear hm hm16
  go_wp2_with fail
  refine (hxor0 _ (Keep.refl _)).mono ?_
  rintro e w2 ⟨v2, rfl, o2, k2⟩
  clear hxor0 hpart0 hb
  go_wp2_with fail
  go_loopw [7, 8, 9] (fun sv rv iv wr => ∃ k r : Nat, r = k + 1 ∧ r ≤ rd + 1 ∧ rv = .int .i64 r ∧ Own w1.heap.size 5 wr sv ((aesK ws rd blk k).map cb) ∧ Keep w1 wr) (fun _ r _ _ => rd + 1 - (intOf r).toNat)
  case atStart => exact ⟨0, 1, rfl, by omega, rfl, o2, k2⟩
  case round => as_aux_lemma =>
    clear o2 k2
    obtain ⟨k, r, hr, hrl, rfl, hown, kw⟩ := hrel
    have HR := Hid.mk hr
    clear hr
    by_cases hlt : r ≤ rd
    · have hlt' : (r : Int) ≤ rd := by omega
      have hkl := HKL.out k
      have EX : Hid (aesK ws rd blk (k + 1) = aesR ws rd (aesK ws rd blk k) (k + 1)) := Hid.mk rfl
      generalize aesK ws rd blk k = s at *
      rcases hown.win with ⟨-, h0⟩ | ⟨g, cap, sp, rfl, hB, hwin, hcap, hcm⟩
      · rw [h0] at hkl; simp at hkl
      rw [hkl]
      have HK := Hid.mk hkl
      have HC := Hid.mk hcap
      have hcap16 : 16 ≤ cap := by omega
      unfold maxLen at hcm
      obtain ⟨q, hq⟩ : ∃ q : Nat, q = 16 * r := ⟨_, rfl⟩
      have e1 : IntKind.i64.wrap (16 * (r : Int)) = (q : Int) := by rw [IntKind.wrap_i64] <;> omega
      have e2 : IntKind.i64.wrap ((q : Int) + 16) = (q : Int) + 16 := by rw [IntKind.wrap_i64] <;> omega
      have HMB : Hid (q + 16 ≤ ws.length) := Hid.mk (by have := HEL.out; omega)
      have j0 : q + 16 ≤ m := by have := HM.out; have := HMB.out; omega
      have j1 : (q : Int) + 16 ≤ m := by omega
      have j2 : (q : Int) + 16 ≤ pc := by omega
      have j3 : (q : Int) ≤ pc := by omega
      have j4 : ¬ pc = q := by omega
      have j5 : (q : Int) ≤ m := by omega
      have hpart1 := hws.part (i := q) (j := q + 16) (by omega) j0 (pa.map (·.add q)) (fun _ => rfl)
      rw [show q + 16 - q = 16 by omega] at hpart1
      have HQ := Hid.mk hq
      clear hkl hcap hq hown
      go_wp2_with fail
      go_loopw [9] (fun iv wx => ∃ i : Nat, i ≤ 16 ∧ iv = .int .i64 i ∧ Win wx g 5 [] (sbk s i) sp ∧ Keep w1 wx) (fun i _ => 16 - (intOf i).toNat)
      case atStart => exact ⟨0, by omega, rfl, hwin, kw⟩
      case round => as_aux_lemma =>
        clear hwin kw
        obtain ⟨i, hi, rfl, hw, kx⟩ := hrel
        by_cases hli : i < 16
        · have hli' : (i : Int) < 16 := by omega
          have hlen : (sbk s i).length = 16 := by rw [sbk_length]; exact HK.out
          have hc := hw.cell (k := i) (o := i) (by omega) (by simp)
          have hgd : (sbk s i)[i]'(by omega) = (sbk s i).getD i 0 := by
            rw [List.getD_eq_getElem?_getD, List.getElem?_eq_getElem (by omega)]; rfl
          have EB : Hid (sbk s (i + 1) = (sbk s i).set i (sub8 ((sbk s i).getD i 0))) := Hid.mk rfl
          rw [hgd] at hc
          generalize (sbk s i).getD i 0 = x at *
          have hset := hw.set (k := i) (by omega) (sub8 x) (o := i) (by simp)
          have hf := hw.frozen i
          have C := fun W => subByte_c x W
          generalize sub8 x = z at *
          have HS := Hid.mk hset
          clear hset hgd hlen j0 j1 j2 j3 j4 j5 e1 e2 hpart1 hws HMB HQ hlt hlt' i1 i2 i3 hpm hpc o1
          go_wp2_with fail
          refine (C _).mono ?_
          rintro e y ⟨rfl, rfl⟩
          go_wp2_with fail
          go_roundw
          case rel => exact ⟨i + 1, by omega, by go_num, by rw [EB.out]; exact HS.out, kx.setCell (by simpa using hB) _⟩
          case measure => simp [intOf]; omega
        · have hli' : ¬ (i : Int) < 16 := by omega
          have : i = 16 := by omega
          subst this
          have O1 := Own.of_win (cap := cap) hB hw (by rw [sbk_length]; exact HC.out) (by simpa [maxLen] using hcm)
          have hl16 : (sbk s 16).length = 16 := by rw [sbk_length]; exact HK.out
          rw [hl16] at O1
          have S1 := fun W (hk : Keep _ W) => shiftRows_c _ _ W (O1.bs.keep hk) hl16
          have HL16 := Hid.mk hl16
          clear hl16 O1 hw HC
          go_wp2_with fail
          refine (S1 _ (Keep.refl _)).mono ?_
          rintro e y2 ⟨v5, rfl, o5, k5⟩
          have hs16 : (srk (sbk s 16) 16).length = 16 := by rw [srk_length]; exact HL16.out
          have HS16 := Hid.mk hs16
          clear hs16
          by_cases hrr : r < rd
          · have hrr' : (r : Int) < rd := by omega
            have MX := fun W (hk : Keep y2 W) => mixColumns_c _ _ 2 1 1 3 W (o5.bs.keep hk) HS16.out
            go_wp2_with fail
            refine (MX _ (Keep.refl _)).mono ?_
            rintro e y3 ⟨v6, rfl, o3, k3⟩
            have K3 := (kx.trans k5).trans k3
            have hpart := hpart1
            have hM16 : (mck 2 1 1 3 (srk (sbk s 16) 16) 4).length = 16 := by rw [mck_length]; exact HS16.out
            obtain ⟨MM, hMM⟩ : ∃ MM, MM = mck 2 1 1 3 (srk (sbk s 16) 16) 4 := ⟨_, rfl⟩
            have HIF : Hid ((if r < rd then mck 2 1 1 3 (srk (sbk s 16) 16) 4 else srk (sbk s 16) 16) = MM) := Hid.mk (by rw [hMM]; exact if_pos hrr)
            rw [← hMM] at o3 hM16
            clear hMM
            have Q := fun W (hk : Keep y3 W) => xor_c _ _ MM ((ws.drop q).take 16) W (o3.bs.keep hk) (hpart.keep (K3.trans hk)) (by have := HMB.out; rw [hM16, List.length_take, List.length_drop]; omega) (by rw [List.length_take, List.length_drop]; omega)
            go_wp2_with fail
            refine (Q _ (Keep.refl _)).mono ?_
            rintro e y4 ⟨v4, rfl, o4, k4⟩
            go_wp2_with fail
            go_roundw
            case rel =>
              refine ⟨k + 1, r + 1, by have := HR.out; omega, by omega, by go_num, ?_, K3.trans k4⟩
              rw [EX.out]
              unfold aesR
              rw [← HR.out, HIF.out, ← HQ.out]
              exact o4.mono K3.size
            case measure => simp [intOf]; omega
          · have hrr' : ¬ (r : Int) < rd := by omega
            have k3 := Keep.refl y2
            have o3 := o5
            have K3 := kx.trans k5
            have hpart := hpart1
            have hM16 : (srk (sbk s 16) 16).length = 16 := HS16.out
            obtain ⟨MM, hMM⟩ : ∃ MM, MM = srk (sbk s 16) 16 := ⟨_, rfl⟩
            have HIF : Hid ((if r < rd then mck 2 1 1 3 (srk (sbk s 16) 16) 4 else srk (sbk s 16) 16) = MM) := Hid.mk (by rw [hMM]; exact if_neg hrr)
            rw [← hMM] at o3 hM16
            clear hMM
            have Q := fun W (hk : Keep y2 W) => xor_c _ _ MM ((ws.drop q).take 16) W (o3.bs.keep hk) (hpart.keep (K3.trans hk)) (by have := HMB.out; rw [hM16, List.length_take, List.length_drop]; omega) (by rw [List.length_take, List.length_drop]; omega)
            go_wp2_with fail
            refine (Q _ (Keep.refl _)).mono ?_
            rintro e y4 ⟨v4, rfl, o4, k4⟩
            go_wp2_with fail
            go_roundw
            case rel =>
              refine ⟨k + 1, r + 1, by have := HR.out; omega, by omega, by go_num, ?_, K3.trans k4⟩
              rw [EX.out]
              unfold aesR
              rw [← HR.out, HIF.out, ← HQ.out]
              exact o4.mono K3.size
            case measure => simp [intOf]; omega
    · have hlt' : ¬ (r : Int) ≤ rd := by omega
      have hkr : Hid (k = rd) := Hid.mk (by have := HR.out; omega)
      go_wp2
      go_ret
      refine ⟨_, rfl, ?_, k1.trans kw⟩
      rw [HD.out, ← hkr.out]
      rw [hkr.out] at hown ⊢
      exact hown.mono k1.size
end Go.Proofs.Qxb6500771aGreat
