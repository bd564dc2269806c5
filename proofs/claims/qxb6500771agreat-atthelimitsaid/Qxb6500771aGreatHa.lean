/- profilem: cipherOf, overCiphertext, CipherLen, mac. -/
import Derived.Test.Qxb6500771aGreatTmA
import Derived.Test.Qxb6500771aGreatGb
import Derived.Test.Qxb6500771aGreatEl
namespace Go.Proofs.Qxb6500771aGreat
open Go.RowKit Go.Qm
set_option linter.unusedVariables false
set_option linter.unusedSimpArgs false
attribute [local go_sem ↓] Go.wp_at_zero Go.wp_at_succ
def cof (e : Int) : Int := if e = 17 ∨ e = 19 then 1 else if e = 18 ∨ e = 20 then 2 else if e = 25 then 3 else 4
theorem cof_alg (e : Int) : Alg (cof e) := by unfold cof Alg; split <;> (try split) <;> (try split) <;> omega
theorem cof_ksz {e : Int} (h : srv e) : ksz (cof e) = kl e := by
  rcases h with rfl | rfl | rfl | rfl | rfl | rfl <;> rfl
theorem cipherOf_c (e : Int) (w : World) (h : srv e) : Calls Tryz.prog 76 #[.int .i32 e] w fun x w' => x = .returned (.int .i64 (cof e)) ∧ w' = w := by
  rcases h with rfl | rfl | rfl | rfl | rfl | rfl
  all_goals (go_enter Tryz.func76, Tryz.ntmps76; go_wp2; go_ret; exact ⟨rfl, rfl⟩)
theorem overC_c (e : Int) (w : World) (h : srv e) : Calls Tryz.prog 77 #[.int .i32 e] w fun x w' => x = .returned (.bool (decide (e = 19 ∨ e = 20))) ∧ w' = w := by
  rcases h with rfl | rfl | rfl | rfl | rfl | rfl
  all_goals (go_enter Tryz.func77, Tryz.ntmps77; go_wp2; go_ret; exact ⟨rfl, rfl⟩)
theorem keyLenS_c (e : Int) (w : World) (h : srv e) : Calls Tryz.prog 22 #[.int .i32 e] w fun x w' => x = .returned (.int .i64 (kl e)) ∧ w' = w := by
  rcases h with rfl | rfl | rfl | rfl | rfl | rfl
  all_goals (go_enter Tryz.func22, Tryz.ntmps22; go_wp2; go_ret; exact ⟨rfl, rfl⟩)
/-- The keyed checksum. -/
def mcF (e : Int) (key text : List UInt8) : List UInt8 := if e = 17 ∨ e = 18 then (hm 1 key text).take 12 else if e = 19 then (hm 2 key text).take 16 else if e = 20 then (hm 3 key text).take 24 else cmac (encF (cof e) key) text
theorem encF_length {al : Int} (h : Alg al) (key l : List UInt8) (hk : key.length = ksz al) (hl : l.length = 16) : (encF al key l).length = 16 := (enc_c al none 0 0 key hk h).1 l hl
theorem mcF_length {e : Int} (h : srv e) (key text : List UInt8) (hk : e = 25 ∨ e = 26 → key.length = kl e) : (mcF e key text).length = cl e := by
  rcases h with rfl | rfl | rfl | rfl | rfl | rfl
  · show ((hm 1 key text).take 12).length = _
    rw [List.length_take, hm_length 1 _ _ (by omega) (by omega)]; rfl
  · show ((hm 1 key text).take 12).length = _
    rw [List.length_take, hm_length 1 _ _ (by omega) (by omega)]; rfl
  · show ((hm 2 key text).take 16).length = _
    rw [List.length_take, hm_length 2 _ _ (by omega) (by omega)]; rfl
  · show ((hm 3 key text).take 24).length = _
    rw [List.length_take, hm_length 3 _ _ (by omega) (by omega)]; rfl
  · show (cmac (encF 3 key) text).length = _
    exact cmac_length (fun l hl => encF_length (al := 3) (by unfold Alg; omega) key l (hk (by omega)) hl) _
  · show (cmac (encF 4 key) text).length = _
    exact cmac_length (fun l hl => encF_length (al := 4) (by unfold Alg; omega) key l (hk (by omega)) hl) _
theorem bs_take {w : World} {a : Option Addr} {n c : Nat} {l : List UInt8} (h : Bs w (.slice a n c) l) {m : Nat} (hm : m ≤ n) : Bs w (.slice a m c) (l.take m) := by
  have h8 := h.part (i := 0) (j := m) (by omega) hm a (fun _ => by cases a <;> simp [Addr.add])
  simpa using h8
set_option maxRecDepth 4000 in
set_option maxHeartbeats 4000000 in
theorem mac_c (e : Int) (h : srv e) (kv tv : Value) (key text : List UInt8) (w : World) (hk : Bs w kv key) (ht : Bs w tv text) (hkl : key.length ≤ 1000) (htl : text.length ≤ 1900000) (hke : e = 25 ∨ e = 26 → key.length = kl e) :
    Calls Tryz.prog 71 #[.int .i32 e, kv, tv] w (RB w (mcF e key text)) := by
  have HH : Hid (∀ x : Nat, 1 ≤ x → x ≤ 3 → Calls Tryz.prog 83 #[.int .i64 x, kv, tv] w fun e w' => ∃ v', e = .returned v' ∧ Own w.heap.size 5 w' v' ((hm x key text).map cb) ∧ Keep w w') := Hid.mk (fun x h1 h3 => mhmac_c x kv tv key text w hk ht (by omega) (by omega) h1 h3)
  rcases h with rfl | rfl | rfl | rfl | rfl | rfl
  · have H1 := Hid.mk (HH.out 1 (by omega) (by omega))
    have HL : Hid ((hm 1 key text).length = 20) := Hid.mk (hm_length 1 _ _ (by omega) (by omega))
    have HF : Hid (mcF 17 key text = (hm 1 key text).take 12) := Hid.mk rfl
    clear hk ht HH
    go_enter Tryz.func71, Tryz.ntmps71
    go_wp2_with fail
    refine H1.out.mono ?_
    rintro e w1 ⟨v1, rfl, o1, k1⟩
    obtain ⟨va, vc, hv, hc1, hc2, -⟩ := o1.bs.form
    rw [HL.out] at hv hc1
    subst hv
    unfold maxLen at hc2
    have HR : Hid (Bs w1 (.slice va 12 vc) (mcF 17 key text)) := Hid.mk (by
      have h9 := o1.bs
      rw [HF.out]
      exact bs_take h9 (by omega))
    have x1 : (12 : Int) ≤ vc := by omega
    have x2 : (vc : Int) ≤ 9223372036854775807 := by omega
    have HK1 := Hid.mk k1
    clear o1 k1
    go_wp2_with fail
    go_ret
    exact ⟨_, rfl, HR.out, HK1.out⟩
  · have H1 := Hid.mk (HH.out 1 (by omega) (by omega))
    have HL : Hid ((hm 1 key text).length = 20) := Hid.mk (hm_length 1 _ _ (by omega) (by omega))
    have HF : Hid (mcF 18 key text = (hm 1 key text).take 12) := Hid.mk rfl
    clear hk ht HH
    go_enter Tryz.func71, Tryz.ntmps71
    go_wp2_with fail
    refine H1.out.mono ?_
    rintro e w1 ⟨v1, rfl, o1, k1⟩
    obtain ⟨va, vc, hv, hc1, hc2, -⟩ := o1.bs.form
    rw [HL.out] at hv hc1
    subst hv
    unfold maxLen at hc2
    have HR : Hid (Bs w1 (.slice va 12 vc) (mcF 18 key text)) := Hid.mk (by
      have h9 := o1.bs
      rw [HF.out]
      exact bs_take h9 (by omega))
    have x1 : (12 : Int) ≤ vc := by omega
    have x2 : (vc : Int) ≤ 9223372036854775807 := by omega
    have HK1 := Hid.mk k1
    clear o1 k1
    go_wp2_with fail
    go_ret
    exact ⟨_, rfl, HR.out, HK1.out⟩
  · have H1 := Hid.mk (HH.out 2 (by omega) (by omega))
    have HL : Hid ((hm 2 key text).length = 32) := Hid.mk (hm_length 2 _ _ (by omega) (by omega))
    have HF : Hid (mcF 19 key text = (hm 2 key text).take 16) := Hid.mk rfl
    clear hk ht HH
    go_enter Tryz.func71, Tryz.ntmps71
    go_wp2_with fail
    refine H1.out.mono ?_
    rintro e w1 ⟨v1, rfl, o1, k1⟩
    obtain ⟨va, vc, hv, hc1, hc2, -⟩ := o1.bs.form
    rw [HL.out] at hv hc1
    subst hv
    unfold maxLen at hc2
    have HR : Hid (Bs w1 (.slice va 16 vc) (mcF 19 key text)) := Hid.mk (by
      have h9 := o1.bs
      rw [HF.out]
      exact bs_take h9 (by omega))
    have x1 : (16 : Int) ≤ vc := by omega
    have x2 : (vc : Int) ≤ 9223372036854775807 := by omega
    have HK1 := Hid.mk k1
    clear o1 k1
    go_wp2_with fail
    go_ret
    exact ⟨_, rfl, HR.out, HK1.out⟩
  · have H1 := Hid.mk (HH.out 3 (by omega) (by omega))
    have HL : Hid ((hm 3 key text).length = 48) := Hid.mk (hm_length 3 _ _ (by omega) (by omega))
    have HF : Hid (mcF 20 key text = (hm 3 key text).take 24) := Hid.mk rfl
    clear hk ht HH
    go_enter Tryz.func71, Tryz.ntmps71
    go_wp2_with fail
    refine H1.out.mono ?_
    rintro e w1 ⟨v1, rfl, o1, k1⟩
    obtain ⟨va, vc, hv, hc1, hc2, -⟩ := o1.bs.form
    rw [HL.out] at hv hc1
    subst hv
    unfold maxLen at hc2
    have HR : Hid (Bs w1 (.slice va 24 vc) (mcF 20 key text)) := Hid.mk (by
      have h9 := o1.bs
      rw [HF.out]
      exact bs_take h9 (by omega))
    have x1 : (24 : Int) ≤ vc := by omega
    have x2 : (vc : Int) ≤ 9223372036854775807 := by omega
    have HK1 := Hid.mk k1
    clear o1 k1
    go_wp2_with fail
    go_ret
    exact ⟨_, rfl, HR.out, HK1.out⟩
  all_goals
    have HT := Hid.mk ht
    have HKE := Hid.mk (hke (by omega))
    first
    | (have CO := Hid.mk (cipherOf_c 25 w (by unfold srv; omega))
       have NW := Hid.mk (newC_c 3 kv key w hk hkl)
       have HF : Hid (mcF 25 key text = cmac (encF 3 key) text) := Hid.mk rfl
       have HEN : Hid (∀ a n c, Enc 3 (.slice a n c) key (encF 3 key)) := Hid.mk (fun a n c => enc_c 3 a n c key HKE.out (by unfold Alg; omega)))
    | (have CO := Hid.mk (cipherOf_c 26 w (by unfold srv; omega))
       have NW := Hid.mk (newC_c 4 kv key w hk hkl)
       have HF : Hid (mcF 26 key text = cmac (encF 4 key) text) := Hid.mk rfl
       have HEN : Hid (∀ a n c, Enc 4 (.slice a n c) key (encF 4 key)) := Hid.mk (fun a n c => enc_c 4 a n c key HKE.out (by unfold Alg; omega)))
    clear hk ht HH hke
    go_enter Tryz.func71, Tryz.ntmps71
    go_wp2_with fail
    refine CO.out.mono ?_
    rintro e y ⟨rfl, hy⟩
    have hy2 := hy.symm
    clear hy
    subst hy2
    go_wp2_with fail
    refine NW.out.mono ?_
    rintro e w1 ⟨v1, rfl, o1, k1⟩
    obtain ⟨va, vc, hv, -, -, -⟩ := o1.bs.form
    subst hv
    have CM := Hid.mk (mcmac_c _ va _ vc key _ text tv w1 (HEN.out va _ vc) o1.bs (HT.out.keep k1) (by omega))
    have HK1 := Hid.mk k1
    clear o1 k1
    go_wp2_with fail
    refine CM.out.mono ?_
    rintro e w2 ⟨v2, rfl, o2, k2⟩
    have HO2 := Hid.mk o2.bs
    have HK2 := Hid.mk (HK1.out.trans k2)
    clear o2 k2
    go_wp2_with fail
    go_ret
    exact ⟨_, rfl, by rw [HF.out]; exact HO2.out, HK2.out⟩
end Go.Proofs.Qxb6500771aGreat
