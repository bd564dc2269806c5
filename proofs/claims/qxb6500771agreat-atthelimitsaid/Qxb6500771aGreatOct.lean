/- octetsm's Repeat, Flip, Digits, Number; place. -/
import Derived.Test.Qxb6500771aGreatBase
namespace Go.Proofs.Qxb6500771aGreat
open Go.RowKit Go.Qm
set_option linter.unusedVariables false
set_option linter.unusedSimpArgs false

theorem tmod_facts (c n : Int) (hn : 0 < n) : -n < c.tmod n ∧ c.tmod n < n ∧ (c.tmod n < 0 → c.tmod n + n = c % n) ∧ (0 ≤ c.tmod n → c.tmod n = c % n) := by
  have h1 := Int.emod_nonneg c (show n ≠ 0 by omega)
  have h2 := Int.emod_lt_of_pos c hn
  have h3 := Int.tmod_eq_emod (a := c) (b := n)
  have h4 : (n.natAbs : Int) = n := by omega
  by_cases h : 0 ≤ c ∨ n ∣ c
  · rw [if_pos h] at h3
    simp at h3
    rw [h3]
    exact ⟨by omega, by omega, by omega, fun _ => rfl⟩
  · rw [if_neg h, h4] at h3
    have h0 : c % n ≠ 0 := fun e => h (Or.inr (Int.dvd_of_emod_eq_zero e))
    rw [h3]
    exact ⟨by omega, by omega, by omega, by omega⟩

theorem place_c (v n : Int) (w : World) (hn : 0 ≤ n) (hn1 : n ≤ 4000000) (hv : -9223372036854775808 ≤ v) (hv1 : v ≤ 9223372036854775807) :
    Calls Tryz.prog 9 #[.int .i64 v, .int .i64 n] w fun e w' => e = .returned (.int .i64 (v % (n + 1))) ∧ Keep w w' := by
  obtain ⟨h1, h2, h3, h4⟩ := tmod_facts v (n + 1) (by omega)
  have hz : n + 1 ≠ 0 := by omega
  by_cases hneg : v.tmod (n + 1) < 0
  · have h5 : v.tmod (n + 1) + n + 1 = v % (n + 1) := by rw [← h3 hneg]; omega
    have H5 := Hid.mk h5
    clear h5 h3 h4
    go_enter Tryz.func9, Tryz.ntmps9
    go_wp2
    go_ret
    exact ⟨by rw [← H5.out]; rfl, Keep.refl _⟩
  · have H5 := Hid.mk (h4 (by omega))
    clear h3 h4
    go_enter Tryz.func9, Tryz.ntmps9
    go_wp2
    go_ret
    exact ⟨by rw [← H5.out]; rfl, Keep.refl _⟩

set_option maxHeartbeats 400000 in
theorem repeat_c (c : UInt8) (n : Nat) (w : World) (hn : n ≤ 4000000) :
    Calls Tryz.prog 27 #[.int .u8 c.toNat, .int .i64 n] w fun e w' => ∃ v', e = .returned v' ∧ Own w.heap.size 5 w' v' ((List.replicate n c).map cb) ∧ Keep w w' := by
  go_enter Tryz.func27, Tryz.ntmps27
  go_wp2
  go_loopw [5, 6] (fun ov i wr => ∃ k : Nat, k ≤ n ∧ i = .int .i64 k ∧ Own w.heap.size 5 wr ov ((List.replicate k c).map cb) ∧ Keep w wr) (fun _ i _ => n - (intOf i).toNat)
  case atStart => exact ⟨0, by omega, rfl, Own.lit [] (Nat.le_refl _) (by simp), (Keep.refl _).alloc _⟩
  case round =>
    obtain ⟨k, hk, rfl, hown, kw⟩ := hrel
    by_cases hlt : k < n
    · have hlt' : (k : Int) < n := by omega
      have hg : (0 : Int) ≤ k := by omega
      have hkl : ((List.replicate k c).map cb).length = k := by simp
      have HK := Hid.mk hkl
      clear hkl
      go_wp2_with (at_builtin; refine wpList_app (by rfl) _ _ _ (by rfl) Tryz.underlying26 inf5 rfl w.heap.size (hown.alloc _) (Sl.one _) (by simp [Value.oneCell']) (by rfl) (by rfl) (by rw [HK.out]; simp [maxLen]; omega) (by rw [HK.out]; simp; omega) (by have := kw.size; simp; omega) ?_; intro v' w' hown' hgr hob)
      go_roundw
      case rel => exact ⟨k + 1, by omega, by go_num, by rw [List.replicate_succ', List.map_append]; exact hown', (kw.alloc _).grown hgr (fun q hq => (hown.lt q hq).1)⟩
      case measure => simp [intOf]; omega
    · have hlt' : ¬ (k : Int) < n := by omega
      go_wp2
      go_ret
      have : k = n := by omega
      subst this
      exact ⟨_, rfl, by simpa using hown, kw⟩

theorem map_rev_take {l : List UInt8} {k : Nat} (h : k < l.length) (q : Nat) (hq : q = l.length - 1 - k) (hq' : q < l.length) : (l.reverse.take k).map cb ++ [Value.int .u8 (l[q]).toNat] = (l.reverse.take (k + 1)).map cb := by
  rw [List.take_succ_eq_append_getElem (by simpa using h), List.map_append, List.getElem_reverse]
  subst hq
  rfl

set_option maxHeartbeats 400000 in
theorem flip_c (v : Value) (l : List UInt8) (w : World) (h : Bs w v l) (hl : l.length ≤ 4000000) :
    Calls Tryz.prog 82 #[v] w fun e w' => ∃ v', e = .returned v' ∧ Own w.heap.size 5 w' v' (l.reverse.map cb) ∧ Keep w w' := by
  obtain ⟨a, c, rfl, hac, hcm, hca⟩ := h.form
  unfold maxLen at hcm
  go_enter Tryz.func82, Tryz.ntmps82
  go_wp2
  go_loopw [3, 4] (fun ov i wr => ∃ k : Nat, k ≤ l.length ∧ i = .int .i64 ((l.length : Int) - 1 - k) ∧ Own w.heap.size 5 wr ov ((l.reverse.take k).map cb) ∧ Keep w wr) (fun _ i _ => (intOf i + 1).toNat)
  case atStart => exact ⟨0, by omega, by go_num, Own.lit [] (Nat.le_refl _) (by simp), (Keep.refl _).alloc _⟩
  case round =>
    obtain ⟨k, hk, rfl, hown, kw⟩ := hrel
    by_cases hlt : k < l.length
    · obtain ⟨q, hq⟩ : ∃ q, q = l.length - 1 - k := ⟨_, rfl⟩
      have hq' : q < l.length := by omega
      obtain ⟨b, o, rfl, h1⟩ := hca q hq'
      replace h1 := kw.cell h1
      have hqi : (l.length : Int) - 1 - k = q := by omega
      rw [hqi]
      have hlt' : (q : Int) < l.length := by omega
      have hg : (0 : Int) ≤ q := by omega
      have hkl : ((l.reverse.take k).map cb).length = k := by simp; omega
      have HK := Hid.mk hkl
      have HQ := Hid.mk hqi
      have HQ2 := Hid.mk hq
      clear hkl hqi hq
      go_wp2_with (at_builtin; refine wpList_app (by rfl) _ _ _ (by rfl) Tryz.underlying26 inf5 rfl w.heap.size (hown.alloc _) (Sl.one _) (by simp [Value.oneCell']) (by rfl) (by rfl) (by rw [HK.out]; simp [maxLen]; omega) (by rw [HK.out]; simp; omega) (by have := kw.size; simp; omega) ?_; intro v' w' hown' hgr hob)
      go_roundw
      case rel => exact ⟨k + 1, by omega, by first | (have := HQ.out; go_num) | go_num, by rw [map_rev_take hlt q HQ2.out hq'] at hown'; exact hown', (kw.alloc _).grown hgr (fun q hq => (hown.lt q hq).1)⟩
      case measure => first | (simp [intOf]; omega) | simp [intOf]
    · have hlt' : ¬ ((l.length : Int) - 1 - k) ≥ 0 := by omega
      go_wp2
      go_ret
      rw [List.take_of_length_le (by simp; omega)] at hown
      exact ⟨_, rfl, by simpa using hown, kw⟩

/-- The k lowest digits of v to the base 256, the lowest first. -/
def led (v : Nat) : Nat → List UInt8
  | 0 => []
  | k + 1 => led v k ++ [UInt8.ofNat (v / 256 ^ k % 256)]
theorem led_length (v : Nat) : ∀ k, (led v k).length = k
  | 0 => rfl
  | k + 1 => by simp [led, led_length v k]
def dig (v n : Nat) : List UInt8 := (led v n).reverse
theorem dig_length (v n : Nat) : (dig v n).length = n := by simp [dig, led_length]

theorem led_step (v k u : Nat) (hu : u = v / 256 ^ k) : (led v k).map cb ++ [Value.int .u8 ((u : Int) % 256)] = (led v (k + 1)).map cb := by
  have h : u % 256 < 256 := Nat.mod_lt _ (by omega)
  have e : (((UInt8.ofNat (u % 256)).toNat : Nat) : Int) = (u : Int) % 256 := by
    rw [UInt8.toNat_ofNat_of_lt' (by simpa [UInt8.size] using h)]; omega
  rw [led, List.map_append, ← hu]
  simp only [List.map_cons, List.map_nil, cb, e]

set_option maxHeartbeats 400000 in
theorem digits_c (v n : Nat) (w : World) (hv : v < 2 ^ 64) (hn : n ≤ 1000) :
    Calls Tryz.prog 70 #[.int .u64 v, .int .i64 n] w fun e w' => ∃ v', e = .returned v' ∧ Own w.heap.size 5 w' v' ((dig v n).map cb) ∧ Keep w w' := by
  go_enter Tryz.func70, Tryz.ntmps70
  go_wp2_with fail
  go_loopw [0, 5, 6] (fun vv ov i wr => ∃ (k u : Nat), k ≤ n ∧ i = .int .i64 k ∧ vv = .int .u64 u ∧ u = v / 256 ^ k ∧ Own w.heap.size 5 wr ov ((led v k).map cb) ∧ Keep w wr) (fun _ _ i _ => n - (intOf i).toNat)
  case atStart => exact ⟨0, v, by omega, rfl, rfl, by simp, Own.lit [] (Nat.le_refl _) (by simp), (Keep.refl _).alloc _⟩
  case round =>
    obtain ⟨k, u, hk, rfl, rfl, hu, hown, kw⟩ := hrel
    have hu1 : u < 2 ^ 64 := by rw [hu]; exact Nat.lt_of_le_of_lt (Nat.div_le_self _ _) hv
    have hu2 : (u : Int) ≤ 18446744073709551615 := by omega
    have HU := Hid.mk hu
    clear hu hu1
    by_cases hlt : k < n
    · have hlt' : (k : Int) < n := by omega
      have hg : (0 : Int) ≤ k := by omega
      have hkl : ((led v k).map cb).length = k := by rw [List.length_map, led_length]
      have HK := Hid.mk hkl
      clear hkl
      have hdn : u / 256 = v / 256 ^ (k + 1) := by rw [HU.out, Nat.div_div_eq_div_mul, Nat.pow_succ]
      have HD := Hid.mk hdn
      clear hdn
      go_wp2_with (at_builtin; refine wpList_app (by rfl) _ _ _ (by rfl) Tryz.underlying26 inf5 rfl w.heap.size (hown.alloc _) (Sl.one _) (by simp [Value.oneCell']) (by rfl) (by rfl) (by rw [HK.out]; simp [maxLen]; omega) (by rw [HK.out]; simp; omega) (by have := kw.size; simp; omega) ?_; intro v' w' hown' hgr hob)
      go_roundw
      case rel => exact ⟨k + 1, u / 256, by omega, by go_num, by first | rfl | go_num, HD.out, by rw [led_step v k u HU.out] at hown'; exact hown', (kw.alloc _).grown hgr (fun q hq => (hown.lt q hq).1)⟩
      case measure => simp [intOf]; omega
    · have hlt' : ¬ (k : Int) < n := by omega
      go_wp2_with fail
      refine (flip_c _ (led v k) _ hown.bs (by rw [led_length]; omega)).mono ?_
      rintro e w1 ⟨rv, rfl, ow, k1⟩
      go_wp2
      go_ret
      have : k = n := by omega
      subst this
      exact ⟨_, rfl, by rw [List.map_reverse] at ow; rw [dig, List.map_reverse]; exact ow.mono kw.size, kw.trans k1⟩

/-- The number that digits to the base 256 write, the first the greatest. -/
def num (l : List UInt8) : Nat := l.foldl (fun v x => v * 256 + x.toNat) 0
theorem num_step {l : List UInt8} {k : Nat} (h : k < l.length) : num (l.take (k + 1)) = num (l.take k) * 256 + l[k].toNat := by
  rw [List.take_succ_eq_append_getElem h, num, List.foldl_append]; rfl
theorem num_lt (l : List UInt8) : num l < 256 ^ l.length := by
  have : ∀ (l : List UInt8) (v : Nat), l.foldl (fun v x => v * 256 + x.toNat) v < (v + 1) * 256 ^ l.length := by
    intro l
    induction l with
    | nil => intro v; simp
    | cons x l ih =>
      intro v
      rw [List.foldl_cons, List.length_cons, Nat.pow_succ]
      have h := ih (v * 256 + x.toNat)
      have hx := x.toNat_lt
      have h2 : (v * 256 + x.toNat + 1) * 256 ^ l.length ≤ ((v + 1) * 256) * 256 ^ l.length := Nat.mul_le_mul_right _ (by omega)
      rw [Nat.mul_assoc, Nat.mul_comm 256] at h2
      omega
  simpa [num] using this l 0

set_option maxHeartbeats 400000 in
theorem number_c (v : Value) (l : List UInt8) (w : World) (h : Bs w v l) (hl : l.length ≤ 8) :
    Calls Tryz.prog 74 #[v] w fun e w' => e = .returned (.int .u64 (num l : Nat)) ∧ Keep w w' := by
  obtain ⟨a, c, rfl, hac, hcm, hca⟩ := h.form
  unfold maxLen at hcm
  go_enter Tryz.func74, Tryz.ntmps74
  go_wp2
  go_loop [3, 4] (fun nv i => ∃ k u : Nat, k ≤ l.length ∧ i = .int .i64 k ∧ nv = .int .u64 u ∧ u = num (l.take k)) (fun _ i => l.length - (intOf i).toNat)
  case atStart => exact ⟨0, 0, by omega, rfl, rfl, rfl⟩
  case round =>
    obtain ⟨k, u, hk, rfl, rfl, hu⟩ := hrel
    by_cases hlt : k < l.length
    · obtain ⟨b, o, rfl, h1⟩ := hca k hlt
      have hlt' : (k : Int) < l.length := by omega
      have hg : (0 : Int) ≤ k := by omega
      have hul : u < 256 ^ 7 := by
        rw [hu]
        refine Nat.lt_of_lt_of_le (num_lt _) (Nat.pow_le_pow_right (by omega) ?_)
        rw [List.length_take]; omega
      have hu2 : (u : Int) ≤ 72057594037927935 := by omega
      have hx : (l[k].toNat : Int) ≤ 255 := by have := l[k].toNat_lt; omega
      have HU := Hid.mk (num_step hlt)
      rw [← hu] at HU
      clear hu hul
      go_wp2
      go_round
      case rel => exact ⟨k + 1, u * 256 + l[k].toNat, by omega, by go_num, by go_num, HU.out.symm⟩
      case measure => simp [intOf]; omega
    · have hlt' : ¬ (k : Int) < l.length := by omega
      have HU := Hid.mk hu
      clear hu
      go_wp2
      go_ret
      exact ⟨by rw [HU.out, List.take_of_length_le (by omega)]; rfl, Keep.refl _⟩

end Go.Proofs.Qxb6500771aGreat
