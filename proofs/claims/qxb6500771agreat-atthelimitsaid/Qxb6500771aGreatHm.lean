/- modesm.HMAC: the formula. -/
import Derived.Test.Qxb6500771aGreatHs
import Derived.Deep.CutRange
namespace Go.Proofs.Qxb6500771aGreat
open Go.RowKit Go.Qm
set_option linter.unusedVariables false
set_option linter.unusedSimpArgs false

theorem bsz_le (h : Nat) : 64 ≤ bsz h ∧ bsz h ≤ 128 := by unfold bsz; split <;> omega
theorem hsz_le (h : Nat) : hsz h ≤ 48 ∧ 16 ≤ hsz h := by unfold hsz; split <;> (try split) <;> (try split) <;> omega
/-- The key of a block's length. -/
def kk (h : Nat) (key : List UInt8) : List UInt8 := if bsz h < key.length then hsh h key else key
def k0 (h : Nat) (key : List UInt8) : List UInt8 := kk h key ++ List.replicate (bsz h - (kk h key).length) 0
theorem kk_length (h : Nat) (key : List UInt8) (h1 : 1 ≤ h) (h5 : h ≤ 3) : (kk h key).length ≤ bsz h := by
  unfold kk
  have := bsz_le h; have := hsz_le h
  split
  · rw [hsh_length h key h1 h5]; omega
  · omega
theorem k0_length (h : Nat) (key : List UInt8) (h1 : 1 ≤ h) (h5 : h ≤ 3) : (k0 h key).length = bsz h := by
  have := kk_length h key h1 h5
  simp [k0]; omega
def hin (h : Nat) (key : List UInt8) : List UInt8 := (k0 h key).map (· ^^^ 54)
def hout (h : Nat) (key : List UInt8) : List UInt8 := (k0 h key).map (· ^^^ 92)
theorem hin_length (h : Nat) (key : List UInt8) (h1 : 1 ≤ h) (h5 : h ≤ 3) : (hin h key).length = bsz h := by rw [hin, List.length_map, k0_length h key h1 h5]
theorem hout_length (h : Nat) (key : List UInt8) (h1 : 1 ≤ h) (h5 : h ≤ 3) : (hout h key).length = bsz h := by rw [hout, List.length_map, k0_length h key h1 h5]
def hm (h : Nat) (key text : List UInt8) : List UInt8 := hsh h (hout h key ++ hsh h (hin h key ++ text))
theorem repeat0_c (n : Nat) (w : World) (hn : n ≤ 4000000) : Calls Tryz.prog 27 #[.int .u8 0, .int .i64 n] w fun e w' => ∃ v', e = .returned v' ∧ Own w.heap.size 5 w' v' ((List.replicate n 0).map cb) ∧ Keep w w' := repeat_c 0 n w hn
theorem repeat54_c (n : Nat) (w : World) (hn : n ≤ 4000000) : Calls Tryz.prog 27 #[.int .u8 54, .int .i64 n] w fun e w' => ∃ v', e = .returned v' ∧ Own w.heap.size 5 w' v' ((List.replicate n 54).map cb) ∧ Keep w w' := repeat_c 54 n w hn
theorem repeat92_c (n : Nat) (w : World) (hn : n ≤ 4000000) : Calls Tryz.prog 27 #[.int .u8 92, .int .i64 n] w fun e w' => ∃ v', e = .returned v' ∧ Own w.heap.size 5 w' v' ((List.replicate n 92).map cb) ∧ Keep w w' := repeat_c 92 n w hn
set_option maxHeartbeats 2000000 in
theorem mhmac_c (h : Nat) (kv tv : Value) (key text : List UInt8) (w : World) (hk : Bs w kv key) (ht : Bs w tv text) (hkl : key.length ≤ 2000000) (htl : text.length ≤ 2000000) (h1 : 1 ≤ h) (h5 : h ≤ 3) :
    Calls Tryz.prog 83 #[.int .i64 h, kv, tv] w fun e w' => ∃ v', e = .returned v' ∧ Own w.heap.size 5 w' v' ((hm h key text).map cb) ∧ Keep w w' := by
  have hb := bsz_le h
  have hkkl := kk_length h key h1 h5
  have h0l := k0_length h key h1 h5
  have hil := hin_length h key h1 h5
  have hol := hout_length h key h1 h5
  have hkk : kk h key = if bsz h < key.length then hsh h key else key := rfl
  have hk0 : k0 h key = kk h key ++ List.replicate (bsz h - (kk h key).length) 0 := rfl
  have hsl : ∀ l, (hsh h l).length ≤ 48 := fun l => by rw [hsh_length h l h1 h5]; exact (hsz_le h).1
  have BS := fun W => blockSize_c h W h1 h5
  generalize bsz h = b at *
  obtain ⟨ak, ck, rfl, hack, hcmk, -⟩ := hk.form
  obtain ⟨at', ct, rfl, hact, hcmt, -⟩ := ht.form
  have HKK := Hid.mk hkk
  have HK0 := Hid.mk hk0
  have HIL := Hid.mk hil
  have HOL := Hid.mk hol
  have H0L := Hid.mk h0l
  clear hkk hk0 hil hol h0l
  go_enter Tryz.func83, Tryz.ntmps83
  go_wp2_with fail
  refine (BS _).mono ?_
  rintro e w1 ⟨rfl, k1⟩
  go_wp2_with fail
  refine (copy_c _ key _ (hk.keep k1) (by omega)).mono ?_
  rintro e w2 ⟨v2, rfl, o2, k2⟩
  have kw2 := k1.trans k2
  obtain ⟨a2, c2, rfl, -⟩ := o2.bs.form
  go_upto_if 19 with fail
  go_cut [8] from 19 to 47 (fun v8 wx => Own w.heap.size 5 wx v8 ((kk h key).map cb) ∧ Keep w wx)
  case first =>
    by_cases hlt : b < key.length
    · have hlt' : (b : Int) < key.length := by omega
      have he := HKK.out
      rw [if_pos hlt] at he
      have HE := Hid.mk he
      clear he
      go_wp2_with fail
      refine (hash_c h _ key _ o2.bs (by omega) h1 h5).mono ?_
      rintro e w3 ⟨v3, rfl, o3, k3⟩
      go_wp2_with fail
      go_meet
      case rel => exact ⟨by rw [HE.out]; exact o3.mono kw2.size, kw2.trans k3⟩
    · have hlt' : ¬ (b : Int) < key.length := by omega
      have he := HKK.out
      rw [if_neg hlt] at he
      have HE := Hid.mk he
      clear he
      go_wp2_with fail
      go_meet
      case rel => exact ⟨by rw [HE.out]; exact o2.mono k1.size, kw2⟩
  case rest =>
    obtain ⟨o3, kw3⟩ := hcut
    clear o2 k1 k2 kw2
    obtain ⟨a3, c3, rfl, -⟩ := o3.bs.form
    obtain ⟨z, hz⟩ : ∃ z, z = b - (kk h key).length := ⟨_, rfl⟩
    have hzi : (b : Int) - ((kk h key).length : Int) = (z : Int) := by omega
    have hzl : z ≤ 128 := by omega
    have HZ := Hid.mk hz
    clear hz
    generalize hkn : (kk h key).length = kn at *
    have HKN := Hid.mk hkn
    clear hkn
    go_wp2_with fail
    refine (repeat0_c z _ (by omega)).mono ?_
    rintro e w4 ⟨v4, rfl, o4, k4⟩
    go_wp2_with fail
    refine (join_c _ _ _ _ _ (o3.bs.keep k4) o4.bs (by rw [HKN.out]; simp; omega)).mono ?_
    rintro e w5 ⟨v5, rfl, o5, k5⟩
    rw [show kk h key ++ List.replicate z 0 = k0 h key by rw [HZ.out]; exact HK0.out.symm] at o5
    have kw5 := kw3.trans (k4.trans k5)
    clear k4 k5 o4 o3 kw3
    go_wp2_with fail
    refine (repeat54_c b _ (by omega)).mono ?_
    rintro e w6 ⟨v6, rfl, o6, k6⟩
    go_wp2_with fail
    refine (repeat92_c b _ (by omega)).mono ?_
    rintro e w7 ⟨v7, rfl, o7, k7⟩
    go_wp2_with fail
    refine (xor_c _ _ _ _ _ (o5.bs.keep (k6.trans k7)) (o6.bs.keep k7) (by rw [H0L.out]; simp) (by simp; omega)).mono ?_
    rintro e w8 ⟨v8, rfl, o8, k8⟩
    rw [xorl_rep _ _ _ (by rw [H0L.out]; omega)] at o8
    have kw8 := kw5.trans (k6.trans (k7.trans k8))
    go_wp2_with fail
    refine (join_c _ _ (hin h key) text _ o8.bs (ht.keep kw8) (by rw [HIL.out]; omega)).mono ?_
    rintro e w9 ⟨v9, rfl, o9, k9⟩
    go_wp2_with fail
    refine (hash_c h _ _ _ o9.bs (by rw [List.length_append, HIL.out]; omega) h1 h5).mono ?_
    rintro e w10 ⟨v10, rfl, o10, k10⟩
    have k810 := k8.trans (k9.trans k10)
    go_wp2_with fail
    refine (xor_c _ _ _ _ _ (o5.bs.keep (k6.trans (k7.trans k810))) (o7.bs.keep k810) (by rw [H0L.out]; simp) (by simp; omega)).mono ?_
    rintro e w11 ⟨v11, rfl, o11, k11⟩
    rw [xorl_rep _ _ _ (by rw [H0L.out]; omega)] at o11
    go_wp2_with fail
    refine (join_c _ _ (hout h key) _ _ o11.bs (o10.bs.keep k11) (by have := hsl (hin h key ++ text); rw [HOL.out]; omega)).mono ?_
    rintro e w12 ⟨v12, rfl, o12, k12⟩
    go_wp2_with fail
    refine (hash_c h _ _ _ o12.bs (by have := hsl (hin h key ++ text); rw [List.length_append, HOL.out]; omega) h1 h5).mono ?_
    rintro e w13 ⟨v13, rfl, o13, k13⟩
    go_wp2
    go_ret
    have kk' := kw8.trans (k9.trans (k10.trans (k11.trans k12)))
    exact ⟨_, rfl, o13.mono kk'.size, kk'.trans k13⟩
end Go.Proofs.Qxb6500771aGreat
