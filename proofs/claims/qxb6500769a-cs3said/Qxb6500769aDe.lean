/- cipherm: DES's toBits and toOctets. -/
import Derived.Test.Qxb6500769aDd
import Derived.Test.Qxb6500769aAe
namespace Go.Proofs.Qxb6500769a
open Go.RowKit Go.Qm
set_option linter.unusedVariables false
set_option linter.unusedSimpArgs false
attribute [local go_sem ↓] Go.wp_at_zero Go.wp_at_succ

def obit (x : UInt8) (j : Nat) : UInt8 := UInt8.ofNat (x.toNat / 2 ^ j % 2)
theorem obit_val (x : UInt8) (j : Nat) : (obit x j).toNat = x.toNat / 2 ^ j % 2 := by
  have : x.toNat / 2 ^ j % 2 < 2 := Nat.mod_lt _ (by omega)
  unfold obit
  rw [UInt8.toNat_ofNat', Nat.mod_eq_of_lt (by omega)]
theorem tm2 (a j : Nat) : ((a : Int) / 2 ^ j).tmod 2 = ((a / 2 ^ j % 2 : Nat) : Int) := by
  have h := Int.ofNat_tmod (a / 2 ^ j) 2
  push_cast at h ⊢
  exact h.symm
/-- The first k bits of an octet. -/
def tbk (x : UInt8) (k : Nat) : List UInt8 := (List.range k).map fun i => obit x (7 - i)
def toB (l : List UInt8) : List UInt8 := l.flatMap fun x => tbk x 8
theorem tbk_length (x : UInt8) (k : Nat) : (tbk x k).length = k := by simp [tbk]
theorem toB_length (l : List UInt8) : (toB l).length = 8 * l.length := by
  induction l with
  | nil => rfl
  | cons x l ih => rw [toB, List.flatMap_cons, List.length_append, tbk_length, ← toB, ih, List.length_cons]; omega
theorem toB_step {l : List UInt8} {k : Nat} (h : k < l.length) : toB (l.take (k + 1)) = toB (l.take k) ++ tbk l[k] 8 := by
  rw [List.take_succ_eq_append_getElem h, toB, toB, List.flatMap_append]; simp
set_option maxHeartbeats 2000000 in
theorem toBits_c (v : Value) (l : List UInt8) (w : World) (h : Bs w v l) (hl : l.length ≤ 1000) :
    Calls Try.prog 73 #[v] w fun e w' => ∃ v', e = .returned v' ∧ Own w.heap.size 5 w' v' ((toB l).map cb) ∧ Keep w w' := by
  obtain ⟨a, c, rfl, hac, hcm, hca⟩ := h.form
  unfold maxLen at hcm
  clear h
  go_enter Try.func73, Try.ntmps73
  go_wp2_with fail
  go_loopw [3, 4, 5] (fun ov i jv wr => ∃ k : Nat, k ≤ l.length ∧ i = .int .i64 k ∧ Own w.heap.size 5 wr ov ((toB (l.take k)).map cb) ∧ Keep w wr) (fun _ i _ _ => l.length - (intOf i).toNat)
  case atStart => exact ⟨0, by omega, rfl, Own.lit [] (Nat.le_refl _) (by simp), (Keep.refl _).alloc _⟩
  case round =>
    obtain ⟨k, hk, rfl, hown, kw⟩ := hrel
    by_cases hlt : k < l.length
    · obtain ⟨b, o, rfl, h0⟩ := hca k hlt
      have hlt' : (k : Int) < l.length := by omega
      have hg : (0 : Int) ≤ k := by omega
      have HS := Hid.mk (toB_step hlt)
      have HTL : Hid ((toB (l.take k)).length = 8 * k) := Hid.mk (by rw [toB_length, List.length_take]; omega)
      generalize l[k] = x at *
      generalize toB (l.take k) = pre at *
      rw [show pre.map cb = (pre ++ tbk x 0).map cb by simp [tbk]] at hown
      have hown0 := hown
      have kw0 := kw
      clear hown kw
      go_wp2_with fail
      go_loopw [3, 5] (fun ov jv wr => ∃ q : Nat, q ≤ 8 ∧ jv = .int .i64 (7 - (q : Int)) ∧ Own w.heap.size 5 wr ov ((pre ++ tbk x q).map cb) ∧ Keep w wr) (fun _ j _ => (intOf j + 1).toNat)
      case atStart => exact ⟨0, by omega, by go_num, hown0, kw0⟩
      case round =>
        clear hown0 kw0
        obtain ⟨q, hq, rfl, hown, kw⟩ := hrel
        by_cases hq8 : q < 8
        · obtain ⟨j, hj⟩ : ∃ j : Nat, j = 7 - q := ⟨_, rfl⟩
          have hji : 7 - (q : Int) = (j : Int) := by omega
          rw [hji]
          have HST : Hid ((pre ++ tbk x (q + 1)).map cb = (pre ++ tbk x q).map cb ++ [Value.int .u8 (obit x j).toNat]) := Hid.mk (by
            unfold tbk; rw [List.range_succ]; simp [hj, cb])
          have h1 := kw.cell h0
          have hj0 : (0 : Int) ≤ j := by omega
          have hj1 : ¬ (j : Int) < 0 := by omega
          have hj7 : (j : Int) ≤ 7 := by omega
          have EO := Hid.mk (obit_val x j)
          have hkl : ((pre ++ tbk x q).map cb).length = 8 * k + q := by rw [List.length_map, List.length_append, tbk_length, HTL.out]
          have HK := Hid.mk hkl
          have HJ := Hid.mk hji
          clear hkl hj hji
          go_wp2_with (at_builtin; refine wpList_app (by rfl) _ _ _ (by rfl) Try.underlying27 inf5 rfl w.heap.size (hown.alloc _) (Sl.one _) (by simp [Value.oneCell']) (by rfl) (by rfl) (by rw [HK.out]; simp [maxLen]; omega) (by rw [HK.out]; simp; omega) (by have := kw.size; simp; omega) ?_; intro v' w' hown' hgr hob)
          go_roundw
          case rel =>
            refine ⟨q + 1, by omega, by have := HJ.out; go_num, ?_, (kw.alloc _).grown hgr (fun q hq => (hown.lt q hq).1)⟩
            rw [HST.out, EO.out, ← tm2]
            first | exact hown' | simpa using hown'
          case measure => first | (simp [intOf]; done) | (simp [intOf]; omega)
        · have hlt' : ¬ (0 : Int) ≤ 7 - (q : Int) := by omega
          have : q = 8 := by omega
          subst this
          go_wp2_with fail
          go_roundw
          case rel => exact ⟨k + 1, by omega, by go_num, by rw [HS.out]; exact hown, kw⟩
          case measure => simp [intOf]; omega
    · have hlt' : ¬ (k : Int) < l.length := by omega
      go_wp2
      go_ret
      rw [List.take_of_length_le (by omega)] at hown
      exact ⟨_, rfl, hown, kw⟩

/-- The number of k bits from place p. -/
def ovl (l : List UInt8) (p : Nat) : Nat → UInt8
  | 0 => 0
  | k + 1 => ovl l p k * 2 + l.getD (p + k) 0
def toOk (l : List UInt8) (n : Nat) : List UInt8 := (List.range n).map fun q => ovl l (8 * q) 8
def toO (l : List UInt8) : List UInt8 := toOk l (l.length / 8)
theorem toOk_length (l : List UInt8) (n : Nat) : (toOk l n).length = n := by simp [toOk]
theorem u8_madd (x y : UInt8) : IntKind.u8.wrap (((x * 2).toNat : Int) + (y.toNat : Int)) = ((x * 2 + y).toNat : Int) := by
  rw [wrap8, UInt8.toNat_add]
  omega
set_option maxHeartbeats 2000000 in
theorem toOctets_c (v : Value) (l : List UInt8) (w : World) (h : Bs w v l) (hl : l.length ≤ 1000) :
    Calls Try.prog 76 #[v] w fun e w' => ∃ v', e = .returned v' ∧ Own w.heap.size 5 w' v' ((toO l).map cb) ∧ Keep w w' := by
  obtain ⟨a, c, rfl, hac, hcm, hca⟩ := h.form
  unfold maxLen at hcm
  clear h
  obtain ⟨n, hn⟩ : ∃ n, n = l.length := ⟨_, rfl⟩
  have HN := Hid.mk hn
  have EO : Hid (toO l = toOk l (n / 8)) := Hid.mk (by rw [hn]; rfl)
  rw [← hn] at hac hl ⊢
  clear hn
  go_enter Try.func76, Try.ntmps76
  go_wp2_with fail
  go_loopw [3, 4, 5, 6] (fun ov i vv jv wr => ∃ k p : Nat, p = 8 * k ∧ p ≤ n ∧ i = .int .i64 p ∧ Own w.heap.size 5 wr ov ((toOk l k).map cb) ∧ Keep w wr) (fun _ i _ _ _ => n + 8 - (intOf i).toNat)
  case atStart => exact ⟨0, 0, rfl, by omega, rfl, Own.lit [] (Nat.le_refl _) (by simp), (Keep.refl _).alloc _⟩
  case round =>
    obtain ⟨k, p, hp, hpn, rfl, hown, kw⟩ := hrel
    have HP := Hid.mk hp
    by_cases hlt : p + 8 ≤ n
    · have hlt' : (p : Int) + 8 ≤ n := by omega
      have hg : (0 : Int) ≤ p := by omega
      have k1000 : 8 * k ≤ 1000 := by omega
      clear hp
      go_wp2_with fail
      go_loopw [5, 6] (fun vv jv wx => ∃ q : Nat, q ≤ 8 ∧ jv = .int .i64 q ∧ vv = .int .u8 (ovl l p q).toNat ∧ wx = wr) (fun _ j _ => 8 - (intOf j).toNat)
      case atStart => exact ⟨0, by omega, rfl, rfl, rfl⟩
      case round =>
        obtain ⟨q, hq, rfl, rfl, rfl⟩ := hrel
        by_cases hq8 : q < 8
        · have hq8' : (q : Int) < 8 := by omega
          have hjl : p + q < l.length := by have := HN.out; omega
          obtain ⟨b, o, rfl, h0⟩ := hca (p + q) hjl
          have h1 := kw.cell h0
          have hgd : l[p + q] = l.getD (p + q) 0 := by simp [List.getD, hjl]
          have EV : Hid (ovl l p (q + 1) = ovl l p q * 2 + l.getD (p + q) 0) := Hid.mk rfl
          rw [hgd] at h1
          generalize l.getD (p + q) 0 = y at *
          generalize ovl l p q = x at *
          have m1 := u8_mul2 x
          have m2 := u8_madd x y
          have m3 : (x.toNat : Int) * 2 % 256 = ((x * 2).toNat : Int) := by rw [← u8_mul2, wrap8]
          have m4 : (((x * 2).toNat : Int) + (y.toNat : Int)) % 256 = ((x * 2 + y).toNat : Int) := by rw [← u8_madd, wrap8]
          generalize x * 2 + y = z at *
          generalize x * 2 = xx at *
          obtain ⟨j, hj⟩ : ∃ j, j = p + q := ⟨_, rfl⟩
          rw [← hj] at h1
          have e1 : IntKind.i64.wrap ((p : Int) + q) = (j : Int) := by rw [IntKind.wrap_i64] <;> omega
          have jn : (j : Int) < n := by omega
          have j0 : (0 : Int) ≤ j := by omega
          clear hj hgd hjl h0
          go_wp2_with fail
          go_roundw
          case rel => exact ⟨q + 1, by omega, by go_num, by rw [EV.out], by first | rfl | trivial⟩
          case measure => simp [intOf]; omega
        · have hq8' : ¬ (q : Int) < 8 := by omega
          have : q = 8 := by omega
          subst this
          have HST : Hid ((toOk l (k + 1)).map cb = (toOk l k).map cb ++ [Value.int .u8 (ovl l p 8).toNat]) := Hid.mk (by
            rw [toOk, List.range_succ, List.map_append, List.map_append, HP.out]; rfl)
          have hkl : ((toOk l k).map cb).length = k := by rw [List.length_map, toOk_length]
          have HK := Hid.mk hkl
          clear hkl
          go_wp2_with (at_builtin; refine wpList_app (by rfl) _ _ _ (by rfl) Try.underlying27 inf5 rfl w.heap.size (hown.alloc _) (Sl.one _) (by simp [Value.oneCell']) (by rfl) (by rfl) (by rw [HK.out]; simp [maxLen]; omega) (by rw [HK.out]; simp; omega) (by have := kw.size; simp; omega) ?_; intro v' w' hown' hgr hob)
          go_roundw
          case rel => exact ⟨k + 1, p + 8, by have := HP.out; omega, by omega, by go_num, by rw [HST.out]; exact hown', (kw.alloc _).grown hgr (fun q hq => (hown.lt q hq).1)⟩
          case measure => simp [intOf]; omega
    · have hlt' : ¬ (p : Int) + 8 ≤ n := by omega
      have hkn : k = n / 8 := by omega
      clear hp
      have HKN := Hid.mk hkn
      clear hkn
      go_wp2
      go_ret
      exact ⟨_, rfl, by rw [EO.out, ← HKN.out]; exact hown, kw⟩
end Go.Proofs.Qxb6500769a
