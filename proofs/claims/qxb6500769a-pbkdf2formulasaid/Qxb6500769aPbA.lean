/- modesm.PBKDF2: the formula of RFC 8018. -/
import Derived.Test.Qxb6500769aHa
namespace Go.Proofs.Qxb6500769a
open Go.RowKit Go.Qm
set_option linter.unusedVariables false
set_option linter.unusedSimpArgs false
attribute [local go_sem ↓] Go.wp_at_zero Go.wp_at_succ

/-- U(j + 1) and T(j + 1) of one block, m being the salt and the block's number. -/
def pU (h : Nat) (p m : List UInt8) : Nat → List UInt8
  | 0 => hm h p m
  | j + 1 => hm h p (pU h p m j)
def pT (h : Nat) (p m : List UInt8) : Nat → List UInt8
  | 0 => hm h p m
  | j + 1 => xorl (pT h p m j) (pU h p m (j + 1))
theorem pU_length (h : Nat) (p m : List UInt8) (h1 : 1 ≤ h) (h5 : h ≤ 5) (j : Nat) : (pU h p m j).length = hsz h := by
  cases j <;> exact hm_length h _ _ h1 h5
theorem pT_length (h : Nat) (p m : List UInt8) (h1 : 1 ≤ h) (h5 : h ≤ 5) (j : Nat) : (pT h p m j).length = hsz h := by
  induction j with
  | zero => exact hm_length h _ _ h1 h5
  | succ j ih => rw [pT, xorl_length, ih]
/-- The first n blocks. -/
def pO (h : Nat) (p s : List UInt8) (c : Nat) : Nat → List UInt8
  | 0 => []
  | n + 1 => pO h p s c n ++ pT h p (s ++ dig (n + 1) 4) (c - 1)
theorem pO_length (h : Nat) (p s : List UInt8) (c : Nat) (h1 : 1 ≤ h) (h5 : h ≤ 5) (n : Nat) : (pO h p s c n).length = n * hsz h := by
  induction n with
  | zero => simp [pO]
  | succ n ih => rw [pO, List.length_append, ih, pT_length h p _ h1 h5, Nat.succ_mul]
/-- How many blocks n octets take. -/
def pM (n sz : Nat) : Nat := (n + sz - 1) / sz
theorem pM_eq {n sz m : Nat} (hs : 0 < sz) (h1 : n ≤ m * sz) (h2 : m * sz < n + sz) : pM n sz = m := by
  unfold pM
  refine Nat.div_eq_of_lt_le ?_ ?_
  · omega
  · rw [Nat.succ_mul]; omega
def pb (h : Nat) (p s : List UInt8) (c n : Nat) : List UInt8 := (pO h p s c (pM n (hsz h))).take n

set_option maxHeartbeats 4000000 in
theorem mpb_c (h : Nat) (kv sv : Value) (p s : List UInt8) (c dk : Nat) (w : World) (hk : Bs w kv p) (hs : Bs w sv s) (hkl : p.length ≤ 400000) (hsl : s.length ≤ 400000) (h1 : 1 ≤ h) (h5 : h ≤ 5) (hc1 : 1 ≤ c) (hc2 : c ≤ 65536) (hd1 : 1 ≤ dk) (hd2 : dk ≤ 1000000000000) :
    Calls Try.prog 27 #[.int .i64 h, kv, sv, .int .i64 c, .int .i64 dk] w fun e w' => ∃ v', e = .returned v' ∧ Bs w' v' (pb h p s c dk) ∧ Keep w w' := by
  have hsz1 := hsz_le h
  have PM := fun m => pM_eq (n := dk) (sz := hsz h) (m := m) (by omega)
  have PTL := fun m j => pT_length h p m h1 h5 j
  have PUL := fun m j => pU_length h p m h1 h5 j
  have POL := fun n => pO_length h p s c h1 h5 n
  have hpb : pb h p s c dk = (pO h p s c (pM dk (hsz h))).take dk := rfl
  generalize hsz h = sz at *
  have HPB := Hid.mk hpb
  have HPM := Hid.mk PM
  have HPTL := Hid.mk PTL
  have HPUL := Hid.mk PUL
  have HPOL := Hid.mk POL
  clear hpb PM PTL PUL POL
  obtain ⟨ak, ck, rfl, -⟩ := hk.form
  obtain ⟨as', cs, rfl, -⟩ := hs.form
  go_enter Try.func27, Try.ntmps27
  go_wp2_with fail
  go_loopw [11, 12] (fun ov iv wr => ∃ n L : Nat, L = n * sz ∧ (L < dk + sz) ∧ iv = .int .i64 (n + 1 : Nat) ∧ Own w.heap.size 5 wr ov ((pO h p s c n).map cb) ∧ Keep w wr) (fun _ iv _ => dk + 5 - (intOf iv).toNat)
  case atStart => exact ⟨0, 0, by simp, by omega, rfl, Own.lit [] (Nat.le_refl _) (by simp), (Keep.refl _).alloc _⟩
  case round =>
    obtain ⟨n, L, hL, hL2, rfl, ow, kw⟩ := hrel
    have hol := HPOL.out n
    have hnL : n ≤ L := by rw [hL]; exact Nat.le_mul_of_pos_right n (by omega)
    obtain ⟨ao, co, rfl, hoa, hoc, -⟩ := ow.bs.form
    rw [hol, ← hL] at hoa ow ⊢
    unfold maxLen at hoc
    obtain ⟨q, hq⟩ : ∃ q, q = n + 1 := ⟨_, rfl⟩
    rw [← hq]
    have HL := Hid.mk hL
    have HQ := Hid.mk hq
    have HOL := Hid.mk hol
    clear hL hol
    by_cases hlt : L < dk
    · have i0 : (L : Int) < dk := by omega
      have hqb : q < 2 ^ 64 := by omega
      have x1 : IntKind.u64.wrap (q : Int) = q := wrap_u64' q hqb
      have hqi : (q : Int) ≤ 1000000000001 := by omega
      clear hq
      go_wp2_with fail
      refine (digits_c q 4 _ hqb (by omega)).mono ?_
      rintro e w2 ⟨dv, rfl, o2, k2⟩
      go_wp2_with fail
      refine (join_c _ _ s (dig q 4) _ (hs.keep (kw.trans k2)) o2.bs (by rw [dig_length]; omega)).mono ?_
      rintro e w3 ⟨jv, rfl, o3, k3⟩
      have K3 := kw.trans (k2.trans k3)
      go_wp2_with fail
      refine (mhmac_c h _ _ p (s ++ dig q 4) _ (hk.keep K3) o3.bs (by omega) (by rw [List.length_append, dig_length]; omega) h1 h5).mono ?_
      rintro e w4 ⟨uv, rfl, o4, k4⟩
      have K4 := K3.trans k4
      have OW := ow.bs.keep (k2.trans (k3.trans k4))
      obtain ⟨mm, hmm⟩ : ∃ mm, mm = s ++ dig q 4 := ⟨_, rfl⟩
      rw [← hmm] at o4
      have HMM := Hid.mk hmm
      clear hmm o2 o3 k2 k3 k4 ow K3
      go_wp2_with fail
      go_loopw [13, 14, 15] (fun uv tv iv wx => ∃ j : Nat, j + 1 ≤ c ∧ iv = .int .i64 (j + 2 : Nat) ∧ Bs wx uv (pU h p mm j) ∧ Bs wx tv (pT h p mm j) ∧ Keep w4 wx) (fun _ _ iv _ => c + 5 - (intOf iv).toNat)
      case atStart => exact ⟨0, by omega, rfl, o4.bs, o4.bs, Keep.refl _⟩
      case round =>
        obtain ⟨j, hj, rfl, bu, bt, kx⟩ := hrel
        have hul := HPUL.out mm j
        have htl := HPTL.out mm j
        have hul2 := HPUL.out mm (j + 1)
        obtain ⟨t, ht⟩ : ∃ t, t = j + 2 := ⟨_, rfl⟩
        rw [← ht]
        have HTT := Hid.mk ht
        have HUL := Hid.mk hul
        have HTL := Hid.mk htl
        have HUL2 := Hid.mk hul2
        clear hul htl hul2
        by_cases hlt2 : j + 2 ≤ c
        · have j0 : (t : Int) ≤ c := by omega
          have j00 : (t : Int) ≤ 65536 := by omega
          clear ht
          go_wp2_with fail
          refine (mhmac_c h _ _ p (pU h p mm j) _ (hk.keep (K4.trans kx)) bu (by omega) (by rw [HUL.out]; omega) h1 h5).mono ?_
          rintro e w5 ⟨u5, rfl, o5, k5⟩
          go_wp2_with fail
          refine (xor_c _ _ (pT h p mm j) (pU h p mm (j + 1)) _ (bt.keep k5) o5.bs (by rw [HTL.out, HUL2.out]; omega) (by rw [HUL2.out]; omega)).mono ?_
          rintro e w6 ⟨t6, rfl, o6, k6⟩
          go_wp2_with fail
          go_roundw
          case rel => exact ⟨j + 1, by omega, by have := HTT.out; go_num, o5.bs.keep k6, o6.bs, kx.trans (k5.trans k6)⟩
          case measure => have := HTT.out; simp [intOf]; omega
        · have j0 : ¬ (t : Int) ≤ c := by omega
          have hjc : j = c - 1 := by omega
          clear ht
          go_wp2_with fail
          refine (join_c _ _ (pO h p s c n) (pT h p mm j) _ (OW.keep kx) bt (by rw [HTL.out, HOL.out, ← HL.out]; omega)).mono ?_
          rintro e w5 ⟨v5, rfl, o5, k5⟩
          go_wp2_with fail
          go_roundw
          case rel =>
            refine ⟨n + 1, L + sz, by rw [HL.out, Nat.succ_mul], by omega, by have := HQ.out; go_num, ?_, K4.trans (kx.trans k5)⟩
            rw [pO, ← hjc, ← HQ.out, ← HMM.out]
            exact o5.mono (K4.trans kx).size
          case measure => have := HQ.out; simp [intOf]; omega
    · have i0 : ¬ (L : Int) < dk := by omega
      have hm := HPM.out n (by rw [← HL.out]; omega) (by rw [← HL.out]; omega)
      have hpart := ow.bs.part (i := 0) (j := dk) (by omega) (by omega) ao (fun _ => by cases ao <;> simp [Addr.add])
      rw [Nat.sub_zero, Nat.sub_zero, List.drop_zero] at hpart
      have hpart' : Bs wr (.slice ao dk co) (pb h p s c dk) := by rw [HPB.out, hm]; exact hpart
      have i1 : (dk : Int) ≤ co := by omega
      clear hpart hm hq
      go_wp2
      go_ret
      exact ⟨_, rfl, hpart', kw⟩
end Go.Proofs.Qxb6500769a
