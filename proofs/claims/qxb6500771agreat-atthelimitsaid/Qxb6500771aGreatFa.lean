/- octetsm: RightOnce, Right. -/
import Derived.Test.Qxb6500771aGreatSm
import Derived.Test.Qxb6500771aGreatArr
import Derived.BigRegion
namespace Go.Proofs.Qxb6500771aGreat
open Go.RowKit Go.Qm
set_option linter.unusedVariables false
set_option linter.unusedSimpArgs false
attribute [local go_sem ↓] Go.wp_at_zero Go.wp_at_succ
def prv (n i : Nat) : Nat := if i = 0 then n - 1 else i - 1
def roB (x y : UInt8) : UInt8 := UInt8.ofNat (x.toNat / 2 + y.toNat % 2 * 128)
theorem roB_nat (x y : UInt8) : (roB x y).toNat = x.toNat / 2 + y.toNat % 2 * 128 := by
  unfold roB
  rw [UInt8.toNat_ofNat']
  apply Nat.mod_eq_of_lt
  have := x.toNat_lt
  omega
def roF (s : List UInt8) (i : Nat) : UInt8 := roB (s.getD i 0) (s.getD (prv s.length i) 0)
def rOnce (s : List UInt8) : List UInt8 := (List.range s.length).map (roF s)
theorem rOnce_length (s : List UInt8) : (rOnce s).length = s.length := by simp [rOnce]
theorem bs_cell {w : World} {a : Option Addr} {n c : Nat} {l : List UInt8} (h : Bs w (.slice a n c) l) {i : Nat} (hi : i < l.length) : ∃ b o, a = some ⟨b, o, none⟩ ∧ w.cell? ⟨b, o + i, none⟩ = some (.int .u8 (l.getD i 0).toNat) := by
  obtain ⟨a', c', e, -, -, hca⟩ := h.form
  injection e with e1 e2 e3
  subst e1
  obtain ⟨b, o, e, h1⟩ := hca i hi
  refine ⟨b, o, e, ?_⟩
  rw [h1]
  simp [List.getD_eq_getElem?_getD, hi]
set_option maxRecDepth 4000 in
set_option maxHeartbeats 4000000 in
theorem rightOnce_c (v : Value) (s : List UInt8) (w : World) (h : Bs w v s) (h00 : s.length ≠ 0) (hl : s.length ≤ 4000000) : Calls Tryz.prog 127 #[v] w fun e w' => ∃ v', e = .returned v' ∧ Own w.heap.size 5 w' v' ((rOnce s).map cb) ∧ Keep w w' := by
  obtain ⟨a, c, rfl, hac, hcm, -⟩ := h.form
  unfold maxLen at hcm
  have hcp := Hid.mk (copy_c _ s w h (by omega))
  have HB0 := Hid.mk h
  obtain ⟨n, hn⟩ : ∃ n, n = s.length := ⟨_, rfl⟩
  have HN := Hid.mk hn
  rw [← hn] at hcp HB0 hac hl h00 ⊢
  have hni : (n : Int) ≤ 4000000 := by omega
  clear h hn
  go_enter Tryz.func127, Tryz.ntmps127
  go_wp2_with fail
  refine hcp.out.mono ?_
  rintro e w1 ⟨v1, rfl, hown, k1⟩
  rcases hown.win with ⟨-, h1⟩ | ⟨g, cap, sp, rfl, hB, hwin, hcap, hm⟩
  · have hn := HN.out
    rw [h1] at hn
    exact absurd hn h00
  unfold maxLen at hm
  have HCAP : Hid (s.length + sp.length = cap ∧ cap ≤ 9223372036854775807) := Hid.mk ⟨hcap, by omega⟩
  have hcapn : n ≤ cap := by have := HN.out; omega
  rw [← HN.out]
  have HB := Hid.mk hB
  have HW0 : Hid (Win w1 g 5 [] ((List.range 0).map (roF s) ++ s.drop 0) sp) := Hid.mk (by simpa using hwin)
  have HK1 := Hid.mk k1
  clear hown hwin hcap
  go_wp2_with fail
  go_loopw [4] (fun iv wr => ∃ k : Nat, k ≤ n ∧ iv = .int .i64 k ∧ Win wr g 5 [] ((List.range k).map (roF s) ++ s.drop k) sp ∧ Keep w wr) (fun i _ => n - (intOf i).toNat)
  case atStart => exact ⟨0, by omega, rfl, HW0.out, HK1.out⟩
  case round =>
    obtain ⟨k, hk, rfl, hw, kw⟩ := hrel
    by_cases hlt : k < n
    · have hlt' : (k : Int) < n := by omega
      have hk0 : (0 : Int) ≤ k := by omega
      obtain ⟨b, o, hab, x1⟩ := bs_cell (HB0.out.keep kw) (i := k) (by have := HN.out; omega)
      obtain ⟨b', o', hab', x2⟩ := bs_cell (HB0.out.keep kw) (i := prv n k) (by have := HN.out; unfold prv; split <;> omega)
      subst hab
      injection hab' with e
      injection e with e1 e2
      subst e1 e2
      have HF : Hid (roF s k = roB (s.getD k 0) (s.getD (prv n k) 0)) := Hid.mk (by unfold roF; rw [← HN.out])
      have hr := hw.range (f := roF s) (k := k) (by have := HN.out; omega)
      have hf := hw.frozen k
      obtain ⟨cv, hc⟩ : ∃ cv : Value, wr.cell? ⟨g, k, none⟩ = some cv := ⟨_, hw.cell (k := k) (o := k) (by simp; have := HN.out; omega) (by simp)⟩
      rw [HF.out] at hr
      have hgl := hw.lt
      have hnat := roB_nat (s.getD k 0) (s.getD (prv n k) 0)
      generalize roB (s.getD k 0) (s.getD (prv n k) 0) = z at *
      generalize s.getD k 0 = x at *
      generalize s.getD (prv n k) 0 = y at *
      have hx := x.toNat_lt
      have hy := y.toNat_lt
      generalize x.toNat = xn at *
      generalize y.toNat = yn at *
      have HZ : Hid ((z.toNat : Int) = (xn : Int) / 2 + (yn : Int) % 2 * 128) := Hid.mk (by rw [hnat]; push_cast; rfl)
      rw [HZ.out] at hr
      have HR := Hid.mk hr
      have HKW := Hid.mk kw
      clear hw kw hr hnat HF
      generalize hq : prv n k = q at *
      have q2 : (q : Int) < n := by rw [← hq]; unfold prv; split <;> omega
      have q3 : (0 : Int) ≤ q := by omega
      by_cases hk1 : k = 0
      · subst hk1
        have hq1 : q = n - 1 := by rw [← hq]; rfl
        have q1 : IntKind.i64.wrap ((n : Int) - 1) = (q : Int) := by rw [IntKind.wrap_i64] <;> omega
        have q4 : IntKind.i64.wrap (((0 : Nat) : Int) - 1) = -1 := by rw [IntKind.wrap_i64] <;> omega
        simp only [Nat.add_zero] at x1
        clear hq hq1
        go_wp2_with fail
        go_region
        go_wp2_with fail
        go_roundw
        case rel => exact ⟨0 + 1, by omega, by go_num, HR.out.drew, (HKW.out.setCell (p := ⟨g, 0, none⟩) (by have := HB.out; show _ ≤ g; omega) _).drew⟩
        case measure => simp [intOf]; omega
      · have hq1 : q = k - 1 := by rw [← hq]; unfold prv; rw [if_neg hk1]
        have q1 : IntKind.i64.wrap ((k : Int) - 1) = (q : Int) := by rw [IntKind.wrap_i64] <;> omega
        have q4 : ¬ ((k : Int) = 0) := by omega
        have q5 : ((k : Int) == 0) = false := by simp; omega
        clear hq hq1
        go_wp2_with fail
        go_region
        go_wp2_with fail
        go_roundw
        case rel => exact ⟨k + 1, by omega, by go_num, HR.out.drew, (HKW.out.setCell (p := ⟨g, k, none⟩) (by have := HB.out; show _ ≤ g; omega) _).drew⟩
        case measure => simp [intOf]; omega
    · have hlt' : ¬ (k : Int) < n := by omega
      have : k = n := by omega
      subst this
      go_wp2
      go_ret
      refine ⟨_, rfl, ?_, kw⟩
      have h9 := Own.of_win (cap := cap) HB.out hw (by simp [List.length_drop]; have := HCAP.out; have := HN.out; omega) (by have := HCAP.out; simp [maxLen]; omega)
      have e : (List.range k).map (roF s) ++ s.drop k = rOnce s := by rw [rOnce, HN.out, List.drop_length, List.append_nil]
      rw [e, rOnce_length, ← HN.out] at h9
      exact h9
/-- k times rOnce. -/
def rN (s : List UInt8) : Nat → List UInt8
  | 0 => s
  | k + 1 => rOnce (rN s k)
theorem rN_length (s : List UInt8) : ∀ k, (rN s k).length = s.length
  | 0 => rfl
  | k + 1 => by rw [rN, rOnce_length, rN_length s k]
set_option maxRecDepth 4000 in
set_option maxHeartbeats 4000000 in
theorem right_c (v : Value) (s : List UInt8) (k : Nat) (w : World) (h : Bs w v s) (h00 : s.length ≠ 0) (hl : s.length ≤ 4000000) (hk : k ≤ 1000) : Calls Tryz.prog 109 #[v, .int .u64 (k : Nat)] w fun e w' => ∃ v', e = .returned v' ∧ Own w.heap.size 5 w' v' ((rN s k).map cb) ∧ Keep w w' := by
  have hcp := Hid.mk (copy_c _ s w h (by omega))
  have hki : (k : Int) ≤ 1000 := by omega
  obtain ⟨a, c, rfl, hac, hcm, -⟩ := h.form
  unfold maxLen at hcm
  clear h
  go_enter Tryz.func109, Tryz.ntmps109
  go_wp2_with fail
  refine hcp.out.mono ?_
  rintro e w1 ⟨v1, rfl, hown, k1⟩
  have HO := Hid.mk hown
  have HK1 := Hid.mk k1
  clear hown k1
  go_wp2_with fail
  go_loopw [5, 6] (fun ov iv wr => ∃ j : Nat, j ≤ k ∧ iv = .int .u64 j ∧ Own w.heap.size 5 wr ov ((rN s j).map cb) ∧ Keep w wr) (fun _ i _ => k - (intOf i).toNat)
  case atStart => exact ⟨0, by omega, rfl, HO.out, HK1.out⟩
  case round =>
    obtain ⟨j, hj, rfl, ho, kw⟩ := hrel
    by_cases hlt : j < k
    · have hlt' : (j : Int) < k := by omega
      have RC := Hid.mk (rightOnce_c _ (rN s j) wr ho.bs (by rw [rN_length]; exact h00) (by rw [rN_length]; omega))
      have HKW := Hid.mk kw
      have HSZ := Hid.mk kw.size
      have wj : IntKind.u64.wrap ((j : Int) + 1) = (j : Int) + 1 := by simp [IntKind.wrap, IntKind.signed, IntKind.bits]; omega
      clear ho kw
      go_wp2_with fail
      refine RC.out.mono ?_
      rintro e w2 ⟨v2, rfl, o2, k2⟩
      have HO2 := Hid.mk (o2.mono HSZ.out)
      have HK2 := Hid.mk (HKW.out.trans k2)
      clear o2 k2
      go_wp2_with fail
      go_roundw
      case rel => exact ⟨j + 1, by omega, by go_num, HO2.out, HK2.out⟩
      case measure => simp [intOf]; omega
    · have hlt' : ¬ (j : Int) < k := by omega
      have : j = k := by omega
      subst this
      go_wp2
      go_ret
      exact ⟨_, rfl, ho, kw⟩
end Go.Proofs.Qxb6500771aGreat
