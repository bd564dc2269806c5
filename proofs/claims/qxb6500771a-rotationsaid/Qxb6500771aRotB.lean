/- token.shiftLeft, RotateRight, RotateLeft; tokenm.Right: their contracts. -/
import Derived.Test.Qxb6500771aRotA
import Derived.Test.Qxb6500771aRotPlain
import Derived.Deep.LoopGhost
namespace Go.Proofs.Qxb6500771a
open Go.RowKit Go.Qm
set_option linter.unusedVariables false
set_option linter.unusedSimpArgs false

theorem val_get {m : List UInt8} {i : Nat} (h : i < m.length) : m[i]? = some m[i] := List.getElem?_eq_getElem h

set_option maxHeartbeats 1000000 in
theorem shiftLeft_c (g len c : Nat) (e0 : TypeId) (post : List Value) (l : List UInt8) (s : Nat) (w : World) (hlen : len = l.length) (hl : len ≤ 1000000) (hs : s < len) (hc : len ≤ c) (hm : c ≤ maxLen) (hg : Win w g e0 [] l post) :
    Calls Try.prog 42 #[.slice (some ⟨g, 0, none⟩) len c, .int .i64 s] w fun e w' => e = .returned (.tuple #[]) ∧ Win w' g e0 [] (rl l s) post ∧ w.grownBy w' (some g) := by
  subst hlen
  unfold maxLen at hm
  by_cases h0 : s = 0
  · subst h0
    go_enter Try.func42, Try.ntmps42
    go_wp2
    refine bodyPost_ret (results_none rfl _ _ _) rfl ⟨rfl, ?_, grown_refl _ _⟩
    rw [rl_zero l 0 (by simp)]; exact hg
  · have h0' : ((s : Int) == 0) = false := beq_eq_false_iff_ne.2 (by omega)
    have hpos : 0 < l.length := by omega
    go_enter Try.func42, Try.ntmps42
    go_wp2_with fail
    refine (gcd_c l.length s w (by omega) (by omega)).mono ?_
    rintro e w1 ⟨rfl, k1⟩
    have hgle : Nat.gcd l.length s ≤ l.length := Nat.gcd_le_left _ hpos
    have HGC : Hid (∀ q, Outer l s q = Outer l s q) := fun _ => rfl
    generalize hgd : Nat.gcd l.length s = gd at *
    have HGD := Hid.mk hgd
    clear hgd
    go_wp2_with fail
    go_loopw [6] (fun iv wr => ∃ (st : Nat) (m : List UInt8), st ≤ gd ∧ iv = .int .i64 st ∧ Outer l s st m ∧ Win wr g e0 [] m post ∧ w.grownBy wr (some g)) (fun i _ => gd - (intOf i).toNat)
    case atStart => exact ⟨0, l, by omega, rfl, Outer.start l s, hg.keep k1, keep_grown k1 _⟩
    case round =>
      obtain ⟨st, m, hst, rfl, hout, hwin, hgr⟩ := hrel
      by_cases hlt : st < gd
      · have i1 : (st : Int) < gd := by omega
        have hml : m.length = l.length := hout.1
        have hsm : st < m.length := by omega
        have c1 := hwin.cell hsm (o := st) (by simp)
        have hst0 : m[st]? = l[st]? := by rw [hout.2 st (by omega), if_neg]; rw [HGD.out, Nat.mod_eq_of_lt hlt]; omega
        have hsl : st < l.length := by omega
        have hst1 : m[st] = l[st] := by rw [val_get hsm, val_get hsl] at hst0; exact Option.some.inj hst0
        rw [hst1] at c1
        have i2 : (st : Int) < l.length := by omega
        have HM := Hid.mk hml
        clear hml hst0 hst1
        go_wp2_with fail
        go_loopg [8, 9] l.length (fun gk av fv wr => ∃ (k : Nat) (m : List UInt8), k + gk = l.length ∧ av = .int .i64 ((st + k * s) % l.length : Nat) ∧ Cyc l s st k m ∧ Win wr g e0 [] m post ∧ w.grownBy wr (some g))
        case atStart => exact ⟨0, m, by omega, by rw [Nat.zero_mul, Nat.add_zero, Nat.mod_eq_of_lt hsl], hout.cyc, hwin, hgr⟩
        case round =>
          clear hwin hgr hout hsm c1 HM
          obtain ⟨k, m, hkg, rfl, hcyc, hwin, hgr⟩ := hrel
          have hklt := hcyc.lt hsl
          have hstg : st < Nat.gcd l.length s := by rw [HGD.out]; exact hlt
          have hat : (st + k * s) % l.length < l.length := Nat.mod_lt _ hpos
          have hfr : (st + (k + 1) * s) % l.length < l.length := Nat.mod_lt _ hpos
          have hstep := step_mod l.length s st k
          have hml := hcyc.1
          obtain ⟨x, hx⟩ : ∃ x, (st + k * s) % l.length = x := ⟨_, rfl⟩
          obtain ⟨y, hy⟩ : ∃ y, (st + (k + 1) * s) % l.length = y := ⟨_, rfl⟩
          have hxm : x < m.length := by omega
          have hym : y < m.length := by omega
          have cx := hwin.cell hxm (o := x) (by simp)
          have cy := hwin.cell hym (o := y) (by simp)
          have fx := hwin.frozen x
          rw [hx, hy] at hstep
          rw [hx] at hat ⊢
          rw [hy] at hfr
          have HX := Hid.mk hx
          have HY := Hid.mk hy
          have HM := Hid.mk hml
          have HK := Hid.mk hkg
          clear hx hy hml hkg
          have hcase : ((x : Int) + s ≥ l.length ∧ (x : Int) + s - l.length = y) ∨ (¬ (x : Int) + s ≥ l.length ∧ (x : Int) + s = y) := by
            by_cases hb : x + s < l.length
            · right
              rw [Nat.mod_eq_of_lt hb] at hstep
              omega
            · left
              rw [Nat.mod_eq_sub_mod (by omega), Nat.mod_eq_of_lt (by omega)] at hstep
              omega
          have i3 : (x : Int) < l.length := by omega
          have i4 : (y : Int) < l.length := by omega
          clear hstep
          by_cases hend : y = st
          · have hend' : ((y : Int) == (st : Int)) = true := beq_iff_eq.2 (by omega)
            have HE := Hid.mk hend
            clear hend
            rcases hcase with ⟨hc1, hc2⟩ | ⟨hc1, hc2⟩
            all_goals
              go_wp2
              go_roundw
              case rel =>
                refine ⟨st + 1, _, by omega, by go_num, ?_, hwin.set hxm _ (by simp), grown_set hgr _ _⟩
                have := hcyc.done hstg hpos (by rw [HY.out, HE.out]) (val_get hsl)
                rwa [HX.out] at this
              case measure => simp [intOf]; omega
          · have hend' : ((y : Int) == (st : Int)) = false := beq_eq_false_iff_ne.2 (by omega)
            have HE := Hid.mk hend
            clear hend
            rcases hcase with ⟨hc1, hc2⟩ | ⟨hc1, hc2⟩
            all_goals
              go_wp2
              go_roundg (l.length - (k + 1))
              case measure => have := HK.out; omega
              case rel =>
                refine ⟨k + 1, _, by omega, by rw [HY.out], ?_, hwin.set hxm _ (by simp), grown_set hgr _ _⟩
                have := hcyc.next hstg hpos (by rw [HY.out]; exact HE.out) (by rw [HY.out]; exact val_get hym)
                rwa [HX.out] at this
      · have i1 : ¬ (st : Int) < gd := by omega
        go_wp2
        go_end0
        refine ⟨rfl, ?_, hgr⟩
        rw [← hout.done (by rw [HGD.out]; omega) hpos]; exact hwin

theorem neg_mod (c n : Int) : -(c % n) % n = -c % n := by
  rw [Int.neg_emod_eq_sub_emod, Int.neg_emod_eq_sub_emod (a := c), Int.sub_emod, Int.emod_emod, ← Int.sub_emod]

set_option maxHeartbeats 1000000 in
theorem rotRight_c (g len c : Nat) (e0 : TypeId) (post : List Value) (l : List UInt8) (n : Int) (w : World) (hlen : len = l.length) (hl : len ≤ 1000000) (hn : -9223372036854775808 ≤ n) (hn1 : n ≤ 9223372036854775807) (hc : len ≤ c) (hm : c ≤ maxLen) (hg : Win w g e0 [] l post) :
    Calls Try.prog 24 #[.slice (some ⟨g, 0, none⟩) len c, .int .i64 n] w fun e w' => e = .returned (.tuple #[]) ∧ Win w' g e0 [] (rl l (-n % (l.length : Int)).toNat) post ∧ w.grownBy w' (some g) := by
  subst hlen
  by_cases h2 : l.length < 2
  · have h2' : (l.length : Int) < 2 := by omega
    go_enter Try.func24, Try.ntmps24
    go_wp2
    refine bodyPost_ret (results_none rfl _ _ _) rfl ⟨rfl, ?_, grown_refl _ _⟩
    by_cases h0 : l.length = 0
    · have : l = [] := List.eq_nil_of_length_eq_zero h0
      subst this
      exact hg
    · rw [rl_zero l _ (by rw [show l.length = 1 by omega]; omega)]; exact hg
  · have h2' : ¬ (l.length : Int) < 2 := by omega
    have hn0 : ¬ (l.length : Int) = 0 := by omega
    have hm0 := Int.emod_nonneg n hn0
    have hm1 := Int.emod_lt_of_pos n (show (0 : Int) < l.length by omega)
    go_enter Try.func24, Try.ntmps24
    go_wp2_with fail
    refine (reduce_c n l.length w (by omega) (by omega) hn hn1).mono ?_
    rintro e w1 ⟨rfl, rfl⟩
    go_wp2_with fail
    refine (reduce_c (-(n % (l.length : Int))) l.length w1 (by omega) (by omega) (by omega) (by omega)).mono ?_
    rintro e w2 ⟨rfl, rfl⟩
    rw [neg_mod]
    have hk0 := Int.emod_nonneg (-n) hn0
    have hk1 := Int.emod_lt_of_pos (-n) (show (0 : Int) < l.length by omega)
    obtain ⟨s, hs⟩ := Int.eq_ofNat_of_zero_le hk0
    rw [hs]
    have HS := Hid.mk hs
    rw [hs] at hk1
    clear hs hk0
    go_wp2_with fail
    refine (shiftLeft_c g l.length c e0 post l s w2 rfl hl (by omega) hc hm hg).mono ?_
    rintro e w3 ⟨rfl, hw3, hg3⟩
    go_wp2
    go_end0
    exact ⟨rfl, by rw [HS.out, Int.toNat_natCast]; exact hw3, hg3⟩

set_option maxHeartbeats 1000000 in
theorem rotLeft_c (g len c : Nat) (e0 : TypeId) (post : List Value) (l : List UInt8) (n : Int) (w : World) (hlen : len = l.length) (hl : len ≤ 1000000) (hn : -9223372036854775808 ≤ n) (hn1 : n ≤ 9223372036854775807) (hc : len ≤ c) (hm : c ≤ maxLen) (hg : Win w g e0 [] l post) :
    Calls Try.prog 26 #[.slice (some ⟨g, 0, none⟩) len c, .int .i64 n] w fun e w' => e = .returned (.tuple #[]) ∧ Win w' g e0 [] (rl l (n % (l.length : Int)).toNat) post ∧ w.grownBy w' (some g) := by
  subst hlen
  by_cases h2 : l.length < 2
  · have h2' : (l.length : Int) < 2 := by omega
    go_enter Try.func26, Try.ntmps26
    go_wp2
    refine bodyPost_ret (results_none rfl _ _ _) rfl ⟨rfl, ?_, grown_refl _ _⟩
    by_cases h0 : l.length = 0
    · have : l = [] := List.eq_nil_of_length_eq_zero h0
      subst this
      exact hg
    · rw [rl_zero l _ (by rw [show l.length = 1 by omega]; omega)]; exact hg
  · have h2' : ¬ (l.length : Int) < 2 := by omega
    have hn0 : ¬ (l.length : Int) = 0 := by omega
    have hm0 := Int.emod_nonneg n hn0
    have hm1 := Int.emod_lt_of_pos n (show (0 : Int) < l.length by omega)
    go_enter Try.func26, Try.ntmps26
    go_wp2_with fail
    refine (reduce_c n l.length w (by omega) (by omega) hn hn1).mono ?_
    rintro e w1 ⟨rfl, rfl⟩
    obtain ⟨s, hs⟩ := Int.eq_ofNat_of_zero_le hm0
    rw [hs]
    have HS := Hid.mk hs
    rw [hs] at hm1
    clear hs hm0
    go_wp2_with fail
    refine (shiftLeft_c g l.length c e0 post l s w1 rfl hl (by omega) hc hm hg).mono ?_
    rintro e w3 ⟨rfl, hw3, hg3⟩
    go_wp2
    go_end0
    exact ⟨rfl, by rw [HS.out, Int.toNat_natCast]; exact hw3, hg3⟩

theorem Own.turn {B : Nat} {w w' : World} {l : List UInt8} {g cap : Nat} {sp : List Value} (hB : B ≤ g) (s : Nat) (h : Win w' g 5 [] (rl l s) sp) (hc : l.length + sp.length = cap) (hm : cap ≤ maxLen) :
    Own B 5 w' (.slice (some ⟨g, 0, none⟩) l.length cap) ((rl l s).map cb) := by
  have := Own.of_win hB h (by rw [rl_length]; exact hc) hm
  rwa [rl_length] at this
theorem rl_nil (s : Nat) : rl [] s = [] := rfl

set_option maxHeartbeats 400000 in
theorem rotRight_own (B : Nat) (v : Value) (l : List UInt8) (n : Int) (w : World) (hl : l.length ≤ 1000000) (hn : -9223372036854775808 ≤ n) (hn1 : n ≤ 9223372036854775807) (h : Own B 5 w v (l.map cb)) :
    Calls Try.prog 24 #[v, .int .i64 n] w fun e w' => e = .returned (.tuple #[]) ∧ Own B 5 w' v ((rl l (-n % (l.length : Int)).toNat).map cb) ∧ w.grownBy w' v.ownBlock := by
  rcases h.win with ⟨rfl, rfl⟩ | ⟨g, cap, sp, rfl, hB, hw, hc, hm⟩
  · go_enter Try.func24, Try.ntmps24
    go_wp2
    refine bodyPost_ret (results_none rfl _ _ _) rfl ⟨rfl, ?_, grown_refl _ _⟩
    rw [rl_nil]; exact h
  · exact (rotRight_c g l.length cap 5 sp l n w rfl hl hn hn1 (by omega) hm hw).mono fun e w' ⟨he, hw', hg⟩ => ⟨he, Own.turn (w := w) hB _ hw' hc hm, hg⟩
set_option maxHeartbeats 400000 in
theorem rotLeft_own (B : Nat) (v : Value) (l : List UInt8) (n : Int) (w : World) (hl : l.length ≤ 1000000) (hn : -9223372036854775808 ≤ n) (hn1 : n ≤ 9223372036854775807) (h : Own B 5 w v (l.map cb)) :
    Calls Try.prog 26 #[v, .int .i64 n] w fun e w' => e = .returned (.tuple #[]) ∧ Own B 5 w' v ((rl l (n % (l.length : Int)).toNat).map cb) ∧ w.grownBy w' v.ownBlock := by
  rcases h.win with ⟨rfl, rfl⟩ | ⟨g, cap, sp, rfl, hB, hw, hc, hm⟩
  · go_enter Try.func26, Try.ntmps26
    go_wp2
    refine bodyPost_ret (results_none rfl _ _ _) rfl ⟨rfl, ?_, grown_refl _ _⟩
    rw [rl_nil]; exact h
  · exact (rotLeft_c g l.length cap 5 sp l n w rfl hl hn hn1 (by omega) hm hw).mono fun e w' ⟨he, hw', hg⟩ => ⟨he, Own.turn (w := w) hB _ hw' hc hm, hg⟩

/-- n places to the right, one at a time. -/
def roN (l : List UInt8) : Nat → List UInt8
  | 0 => l
  | n + 1 => ro1 (roN l n)
theorem ro1_length (l : List UInt8) : (ro1 l).length = l.length := by simp [ro1]
theorem roN_length (l : List UInt8) : ∀ n, (roN l n).length = l.length
  | 0 => rfl
  | n + 1 => by rw [roN, ro1_length, roN_length l n]
theorem ro1_eq (l : List UInt8) : ro1 l = rl l (l.length - 1) := by
  apply List.ext_getElem?
  intro i
  by_cases hi : i < l.length
  · rw [rl_get _ _ _ hi]
    unfold ro1
    by_cases h0 : i = 0
    · subst h0
      rw [List.getElem?_append_left (by simp; omega), List.getElem?_drop, Nat.zero_add, Nat.add_zero, Nat.mod_eq_of_lt (by omega)]
    · rw [List.getElem?_append_right (by simp; omega), List.length_drop, List.getElem?_take, if_pos (by omega), show i + (l.length - 1) = (i - 1) + l.length by omega, Nat.add_mod_right, Nat.mod_eq_of_lt (by omega)]
      congr 1
      omega
  · rw [List.getElem?_eq_none (by rw [ro1_length]; omega), List.getElem?_eq_none (by rw [rl_length]; omega)]
theorem roN_eq (l : List UInt8) : ∀ n, roN l n = rl l (n * (l.length - 1))
  | 0 => by rw [Nat.zero_mul, rl_zero l 0 (by simp)]; rfl
  | n + 1 => by rw [roN, ro1_eq, roN_length, roN_eq l n, rl_rl, Nat.succ_mul]
theorem rl_congr (l : List UInt8) {a b : Nat} (h : a % l.length = b % l.length) : rl l a = rl l b := by rw [← rl_mod, h, rl_mod]
theorem right_mod (n k : Nat) (hk : 0 < k) : (n * (k - 1)) % k = (-(n : Int) % (k : Int)).toNat % k := by
  have h0 := Int.emod_nonneg (-(n : Int)) (show (k : Int) ≠ 0 by omega)
  apply Int.ofNat.inj
  show ((n * (k - 1) % k : Nat) : Int) = (((-(n : Int) % (k : Int)).toNat % k : Nat) : Int)
  rw [Int.natCast_emod, Int.natCast_emod, Int.toNat_of_nonneg h0, Int.emod_emod, Int.natCast_mul, Int.natCast_sub (by omega)]
  have : (n : Int) * ((k : Int) - ((1 : Nat) : Int)) = -(n : Int) + (n : Int) * (k : Int) := by
    rw [Int.mul_sub]; simp; omega
  rw [this, Int.add_mul_emod_self_right]

set_option maxHeartbeats 400000 in
theorem right_c (v : Value) (l : List UInt8) (n : Nat) (w : World) (h : Bs w v l) (hl : l.length ≤ 1000000) (hn : n ≤ 65535) :
    Calls Try.prog 25 #[v, .int .i64 n] w fun e w' => ∃ v', e = .returned v' ∧ Own w.heap.size 5 w' v' ((roN l n).map cb) ∧ Keep w w' := by
  go_enter Try.func25, Try.ntmps25
  go_wp2_with fail
  refine (copy_c v l w h (by omega)).mono ?_
  rintro e w1 ⟨ov, rfl, ow, k1⟩
  go_wp2_with fail
  go_loopw [5, 6] (fun ov i wr => ∃ k : Nat, k ≤ n ∧ i = .int .i64 k ∧ Own w.heap.size 5 wr ov ((roN l k).map cb) ∧ Keep w wr) (fun _ i _ => n - (intOf i).toNat)
  case atStart => exact ⟨0, by omega, rfl, ow, k1⟩
  case round =>
    clear ow
    obtain ⟨k, hk, rfl, hown, kw⟩ := hrel
    by_cases hlt : k < n
    · have i1 : (k : Int) < n := by omega
      go_wp2_with fail
      refine (rightOnce_c _ (roN l k) wr hown.bs (by rw [roN_length]; exact hl)).mono ?_
      rintro e w2 ⟨v2, rfl, ow2, k2⟩
      go_wp2
      go_roundw
      case rel => exact ⟨k + 1, by omega, by go_num, ow2.mono kw.size, kw.trans k2⟩
      case measure => simp [intOf]; omega
    · have hkn : k = n := by omega
      subst hkn
      have i1 : ¬ (k : Int) < k := by omega
      go_wp2_with fail
      go_loopw [5, 7] (fun ov i wr => i = .int .i64 0 ∧ Own w.heap.size 5 wr ov ((roN l k).map cb) ∧ Keep w wr) (fun _ i _ => 0)
      case atStart => exact ⟨rfl, hown, kw⟩
      case round =>
        clear hown kw
        obtain ⟨rfl, hown, kw⟩ := hrel
        have i2 : ¬ (0 : Int) > k := by omega
        go_wp2
        go_ret
        exact ⟨_, rfl, by simpa using hown, kw⟩
end Go.Proofs.Qxb6500771a
