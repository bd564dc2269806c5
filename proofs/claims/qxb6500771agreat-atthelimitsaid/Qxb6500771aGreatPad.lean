/- digestm.padded. -/
import Derived.Test.Qxb6500771aGreatDg
namespace Go.Proofs.Qxb6500771aGreat
open Go.RowKit Go.Qm
set_option linter.unusedVariables false
set_option linter.unusedSimpArgs false

def lenV : Value → Nat | .slice _ n _ => n | _ => 0

def zs64 (n : Nat) : Nat := (120 - (n + 1) % 64) % 64
theorem zs64_lt (n : Nat) : zs64 n < 64 := Nat.mod_lt _ (by omega)
theorem zs64_test (n k : Nat) (hk : k ≤ zs64 n) : ((n + 1 + k) % 64 = 56) ↔ k = zs64 n := by unfold zs64 at *; omega
theorem zs64_dvd (n : Nat) : ∃ m, 0 < m ∧ n + 1 + zs64 n + 8 = 64 * m := ⟨(n + 1 + zs64 n + 8) / 64, by unfold zs64; omega, by unfold zs64; omega⟩
def pad64 (l : List UInt8) (lit : Bool) : List UInt8 := (l ++ [128] ++ List.replicate (zs64 l.length) 0) ++ (if lit then (dig (l.length * 8) 8).reverse else dig (l.length * 8) 8)
theorem pad64_length (l : List UInt8) (lit : Bool) : (pad64 l lit).length = l.length + 1 + zs64 l.length + 8 := by
  unfold pad64; cases lit <;> simp [dig_length] <;> omega
set_option maxHeartbeats 1000000 in
theorem padded64_c (v : Value) (l : List UInt8) (lit : Bool) (w : World) (h : Bs w v l) (hl : l.length ≤ 4000000) : Calls Tryz.prog 120 #[v, .int .i64 64, .int .i64 8] w fun e w' => ∃ v', e = .returned v' ∧ Own w.heap.size 5 w' v' ((pad64 l false).map cb) ∧ Keep w w' := by
  have hb := h
  obtain ⟨a, c, rfl, hac, hcm, hca⟩ := h.form
  clear hca h
  unfold maxLen at hcm
  go_enter Tryz.func120, Tryz.ntmps120
  go_wp2_with fail
  have k0 := (Keep.refl w).alloc (.cells #[.int .u8 128] 5)
  have b128 : Bs (w.alloc (.cells #[.int .u8 128] 5)) (.slice (some ⟨w.heap.size, 0, none⟩) 1 1) [128] := Sl.one (.int .u8 128)
  refine (join_c _ _ l [128] _ (hb.keep k0) b128 (by simp; omega)).mono ?_
  rintro e w1 ⟨v1, rfl, o1, k1⟩
  replace k1 := k0.trans k1
  replace o1 := o1.mono (B' := w.heap.size) k0.size
  have hz := zs64_lt l.length
  have HT := Hid.mk (zs64_test l.length)
  generalize hzz : zs64 l.length = z at hz
  have HZ := Hid.mk hzz
  clear hzz b128
  go_wp2_with fail
  go_loopw [7] (fun ov wr => ∃ (k : Nat), k ≤ z ∧ Own w.heap.size 5 wr ov ((l ++ [128] ++ List.replicate k 0).map cb) ∧ Keep w wr) (fun o _ => 64 + l.length - lenV o)
  case atStart => exact ⟨0, by omega, by simpa using o1, k1⟩
  case round =>
    obtain ⟨k, hk, hown, kw⟩ := hrel
    have hkl : ((l ++ [128] ++ List.replicate k 0).map cb).length = l.length + 1 + k := by simp; omega
    have HK := Hid.mk hkl
    obtain ⟨a2, c2, rfl, hac2, hcm2, hca2⟩ := hown.bs.form
    clear hca2
    have hl2 : (l ++ [128] ++ List.replicate k 0).length = l.length + 1 + k := by simp; omega
    rw [hl2] at hac2 hown ⊢
    have ht := HT.out k (by rw [HZ.out]; omega)
    rw [HZ.out] at ht
    have hmod : ((l.length + 1 + k : Nat) : Int).tmod 64 = (((l.length + 1 + k) % 64 : Nat) : Int) := (Int.ofNat_tmod _ 64).symm
    generalize hlen : l.length + 1 + k = len at *
    have HL := Hid.mk hlen
    have hlen1 : len ≤ 8000000 := by omega
    clear hkl hl2 hlen
    generalize hrm : len % 64 = r at *
    clear hrm
    by_cases hlt : k = z
    · have hr : r = 56 := ht.2 hlt
      subst hr
      have y1 : IntKind.u64.wrap (l.length : Int) = l.length := wrap_u64' _ (by omega)
      have y2 : IntKind.u64.wrap ((l.length : Int) * 8) = ((l.length * 8 : Nat) : Int) := by rw [← wrap_u64' (l.length * 8) (by omega)]; simp
      clear ht
      go_wp2_with fail
      refine (digits_c (l.length * 8) 8 _ (by omega) (by omega)).mono ?_
      rintro e w2 ⟨v2, rfl, o2, k2⟩
      have hown2 := hown.bs.keep k2
      go_wp2_with fail
      refine (join_c _ _ _ _ _ hown2 o2.bs (by simp [dig_length]; omega)).mono ?_
      rintro e w4 ⟨v4, rfl, o4, k4⟩
      go_wp2
      go_ret
      have kk := kw.trans k2
      refine ⟨_, rfl, ?_, kk.trans k4⟩
      have o5 := o4.mono kk.size
      subst hlt
      simpa [pad64, HZ.out] using o5
    · have hr : ((r : Int) != 56) = true := by
        have : r ≠ 56 := fun e => hlt (ht.1 e)
        simp; omega
      clear ht
      go_wp2_with (at_builtin; refine wpList_app (by rfl) _ _ _ (by rfl) Tryz.underlying26 inf5 rfl w.heap.size (hown.alloc _) (Sl.one _) (by simp [Value.oneCell']) (by rfl) (by rfl) (by rw [HK.out]; simp [maxLen]; omega) (by rw [HK.out]; simp; omega) (by have := kw.size; simp; omega) ?_; intro v' w' hown' hgr hob)
      go_roundw
      case rel => exact ⟨k + 1, by omega, by rw [List.replicate_succ', ← List.append_assoc, List.map_append]; exact hown', (kw.alloc _).grown hgr (fun q hq => (hown.lt q hq).1)⟩
      case measure =>
        obtain ⟨a3, c3, h3, -⟩ := hown'.sl
        have := HL.out
        rw [h3]; simp [lenV]; omega

def zs128 (n : Nat) : Nat := (240 - (n + 1) % 128) % 128
theorem zs128_lt (n : Nat) : zs128 n < 128 := Nat.mod_lt _ (by omega)
theorem zs128_test (n k : Nat) (hk : k ≤ zs128 n) : ((n + 1 + k) % 128 = 112) ↔ k = zs128 n := by unfold zs128 at *; omega
theorem zs128_dvd (n : Nat) : ∃ m, 0 < m ∧ n + 1 + zs128 n + 16 = 128 * m := ⟨(n + 1 + zs128 n + 16) / 128, by unfold zs128; omega, by unfold zs128; omega⟩
def pad128 (l : List UInt8) (lit : Bool) : List UInt8 := (l ++ [128] ++ List.replicate (zs128 l.length) 0) ++ (if lit then (dig (l.length * 8) 16).reverse else dig (l.length * 8) 16)
theorem pad128_length (l : List UInt8) (lit : Bool) : (pad128 l lit).length = l.length + 1 + zs128 l.length + 16 := by
  unfold pad128; cases lit <;> simp [dig_length] <;> omega
set_option maxHeartbeats 1000000 in
theorem padded128_c (v : Value) (l : List UInt8) (lit : Bool) (w : World) (h : Bs w v l) (hl : l.length ≤ 4000000) : Calls Tryz.prog 120 #[v, .int .i64 128, .int .i64 16] w fun e w' => ∃ v', e = .returned v' ∧ Own w.heap.size 5 w' v' ((pad128 l false).map cb) ∧ Keep w w' := by
  have hb := h
  obtain ⟨a, c, rfl, hac, hcm, hca⟩ := h.form
  clear hca h
  unfold maxLen at hcm
  go_enter Tryz.func120, Tryz.ntmps120
  go_wp2_with fail
  have k0 := (Keep.refl w).alloc (.cells #[.int .u8 128] 5)
  have b128 : Bs (w.alloc (.cells #[.int .u8 128] 5)) (.slice (some ⟨w.heap.size, 0, none⟩) 1 1) [128] := Sl.one (.int .u8 128)
  refine (join_c _ _ l [128] _ (hb.keep k0) b128 (by simp; omega)).mono ?_
  rintro e w1 ⟨v1, rfl, o1, k1⟩
  replace k1 := k0.trans k1
  replace o1 := o1.mono (B' := w.heap.size) k0.size
  have hz := zs128_lt l.length
  have HT := Hid.mk (zs128_test l.length)
  generalize hzz : zs128 l.length = z at hz
  have HZ := Hid.mk hzz
  clear hzz b128
  go_wp2_with fail
  go_loopw [7] (fun ov wr => ∃ (k : Nat), k ≤ z ∧ Own w.heap.size 5 wr ov ((l ++ [128] ++ List.replicate k 0).map cb) ∧ Keep w wr) (fun o _ => 128 + l.length - lenV o)
  case atStart => exact ⟨0, by omega, by simpa using o1, k1⟩
  case round =>
    obtain ⟨k, hk, hown, kw⟩ := hrel
    have hkl : ((l ++ [128] ++ List.replicate k 0).map cb).length = l.length + 1 + k := by simp; omega
    have HK := Hid.mk hkl
    obtain ⟨a2, c2, rfl, hac2, hcm2, hca2⟩ := hown.bs.form
    clear hca2
    have hl2 : (l ++ [128] ++ List.replicate k 0).length = l.length + 1 + k := by simp; omega
    rw [hl2] at hac2 hown ⊢
    have ht := HT.out k (by rw [HZ.out]; omega)
    rw [HZ.out] at ht
    have hmod : ((l.length + 1 + k : Nat) : Int).tmod 128 = (((l.length + 1 + k) % 128 : Nat) : Int) := (Int.ofNat_tmod _ 128).symm
    generalize hlen : l.length + 1 + k = len at *
    have HL := Hid.mk hlen
    have hlen1 : len ≤ 8000000 := by omega
    clear hkl hl2 hlen
    generalize hrm : len % 128 = r at *
    clear hrm
    by_cases hlt : k = z
    · have hr : r = 112 := ht.2 hlt
      subst hr
      have y1 : IntKind.u64.wrap (l.length : Int) = l.length := wrap_u64' _ (by omega)
      have y2 : IntKind.u64.wrap ((l.length : Int) * 8) = ((l.length * 8 : Nat) : Int) := by rw [← wrap_u64' (l.length * 8) (by omega)]; simp
      clear ht
      go_wp2_with fail
      refine (digits_c (l.length * 8) 16 _ (by omega) (by omega)).mono ?_
      rintro e w2 ⟨v2, rfl, o2, k2⟩
      have hown2 := hown.bs.keep k2
      go_wp2_with fail
      refine (join_c _ _ _ _ _ hown2 o2.bs (by simp [dig_length]; omega)).mono ?_
      rintro e w4 ⟨v4, rfl, o4, k4⟩
      go_wp2
      go_ret
      have kk := kw.trans k2
      refine ⟨_, rfl, ?_, kk.trans k4⟩
      have o5 := o4.mono kk.size
      subst hlt
      simpa [pad128, HZ.out] using o5
    · have hr : ((r : Int) != 112) = true := by
        have : r ≠ 112 := fun e => hlt (ht.1 e)
        simp; omega
      clear ht
      go_wp2_with (at_builtin; refine wpList_app (by rfl) _ _ _ (by rfl) Tryz.underlying26 inf5 rfl w.heap.size (hown.alloc _) (Sl.one _) (by simp [Value.oneCell']) (by rfl) (by rfl) (by rw [HK.out]; simp [maxLen]; omega) (by rw [HK.out]; simp; omega) (by have := kw.size; simp; omega) ?_; intro v' w' hown' hgr hob)
      go_roundw
      case rel => exact ⟨k + 1, by omega, by rw [List.replicate_succ', ← List.append_assoc, List.map_append]; exact hown', (kw.alloc _).grown hgr (fun q hq => (hown.lt q hq).1)⟩
      case measure =>
        obtain ⟨a3, c3, h3, -⟩ := hown'.sl
        have := HL.out
        rw [h3]; simp [lenV]; omega
end Go.Proofs.Qxb6500771aGreat
