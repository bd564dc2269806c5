/- octetsm.Scalars, UTF16LE, Number; octets.Equal: their contracts. -/
import Derived.Test.Qxb6500770aU2
import Derived.Test.Qxb6500770aU3
namespace Go.Proofs.Qxb6500770a
open Go.RowKit Go.Qm
set_option linter.unusedVariables false
set_option linter.unusedSimpArgs false

theorem inf3 : (Try.prog.info? 3).map (fun i => (i.zero, i.size, i.bytes)) = some (some (.int .i64 0), 1, 8) := by kernel_rfl
/-- A number as a cell. -/
def ci (c : Nat) : Value := .int .i64 c

set_option maxRecDepth 10000 in
set_option maxHeartbeats 1000000 in
theorem scalars_c (v : Value) (l : List UInt8) (w : World) (hs : Bs w v l) (hl : l.length ≤ 1000000) :
    Calls Try.prog 26 #[v] w fun e w' => (∀ all, sc l = some all → ∃ r, e = .returned (.tuple #[r, .bool true]) ∧ Own w.heap.size 3 w' r (all.map ci)) ∧ (sc l = none → ∃ r, e = .returned (.tuple #[r, .bool false])) ∧ Keep w w' := by
  go_enter Try.func26, Try.ntmps26
  go_wp2
  go_loopw [0, 4] (fun sv ov wr => ∃ (k : Nat) (cs : List Nat), ReadTo l k cs ∧ Bs w sv (l.drop k) ∧ Own w.heap.size 3 wr ov (cs.map ci) ∧ cs.length ≤ k ∧ Keep w wr) (fun sv _ _ => match sv with | .slice _ n _ => n | _ => 0)
  case atStart => exact ⟨0, [], ReadTo.start l, (by simpa using hs), Own.lit [] (Nat.le_refl _) (by simp), by simp, (Keep.refl w).alloc _⟩
  case round =>
    obtain ⟨k, cs, hrd, hsv, hown, hcl, kw⟩ := hrel
    have hk0 := hrd.1
    have hsv0 := hsv
    obtain ⟨a, c, rfl, hac, hcm, hca⟩ := hsv.form
    have hdl : (l.drop k).length = l.length - k := List.length_drop
    unfold maxLen at hcm
    rw [hdl] at hac hsv0 ⊢
    have HDL := Hid.mk hdl
    clear hca hdl hsv
    by_cases hlt : k < l.length
    · have i1 : ((l.length - k : Nat) : Int) > 0 := by omega
      go_wp2_with fail
      refine (firstScalar_c _ (l.drop k) wr (hsv0.keep kw) (by rw [HDL.out]; omega)).mono ?_
      rintro e w1 ⟨rfl, k1⟩
      cases hd : dec (l.drop k) with
      | none =>
        have hf : firstV (l.drop k) = (0, 0, false) := by unfold firstV; rw [hd]
        rw [hf]
        have hn := hrd.stop hlt hd
        have HN := Hid.mk hn
        clear hf hd hn
        go_wp2
        go_ret2
        exact ⟨fun all h => absurd (HN.out.symm.trans h) (by simp), fun _ => ⟨_, rfl⟩, (kw.trans k1).alloc _⟩
      | some p =>
        obtain ⟨cc, ww⟩ := p
        have hf : firstV (l.drop k) = ((cc : Int), (ww : Int), true) := by unfold firstV; rw [hd]
        rw [hf]
        obtain ⟨hw1, hw2, hw4, _⟩ := dec_found hd
        rw [HDL.out] at hw1
        have HNX := Hid.mk (hrd.next hd)
        clear hf hd
        have hkl : ((cs.map ci)).length = cs.length := List.length_map ..
        have HK := Hid.mk hkl
        clear hkl
        have i2 : (ww : Int) ≤ (l.length - k : Nat) := by omega
        have own1 := hown.keep k1
        have hlc : l.length - k ≤ c := hac
        have HOWN := Hid.mk hown
        go_wp2_with (at_builtin; refine wpList_app (by rfl) _ _ _ (by rfl) Try.underlying48 inf3 rfl w.heap.size (own1.alloc _) (Sl.one _) (by simp [Value.oneCell']) (by rfl) (by rfl) (by rw [HK.out]; simp [maxLen]; omega) (by rw [HK.out]; simp; omega) (by have := (kw.trans k1).size; simp; omega) ?_; intro v' w' hown' hgr hob)
        have kw' : Keep w w' := ((kw.trans k1).alloc _).grown hgr (fun q hq => (own1.lt q hq).1)
        go_roundw
        case rel =>
          refine ⟨k + ww, cs ++ [cc], HNX.out, ?_, ?_, by simp; omega, kw'⟩
          · have hp := (hsv0.part (i := ww) (j := l.length - k) (by omega) (Nat.le_refl _) (if c = ww then a else Option.map (fun x => x.add ww) a) (fun hlt2 => by rw [if_neg (by omega)]))
            rw [List.take_of_length_le (by simp; omega), List.drop_drop] at hp
            exact hp
          · rw [List.map_append]; exact hown'
        case measure => simp; omega
    · have i1 : ¬ ((l.length - k : Nat) : Int) > 0 := by omega
      have hdn := hrd.done hlt
      have HD := Hid.mk hdn
      clear hdn
      go_wp2
      go_ret2
      exact ⟨fun all h => ⟨_, rfl, (by have := Option.some.inj (HD.out.symm.trans h); rw [← this]; exact hown)⟩, fun h => absurd (HD.out.symm.trans h) (by simp), kw⟩

set_option maxRecDepth 10000 in
set_option maxHeartbeats 1000000 in
theorem utf16LE_c (v : Value) (l : List UInt8) (w : World) (hs : Bs w v l) (hl : l.length ≤ 1000000) :
    Calls Try.prog 17 #[v] w fun e w' => (∀ all, sc l = some all → ∃ r, e = .returned (.tuple #[r, .bool true]) ∧ Own w.heap.size 5 w' r ((u16s all).map cb)) ∧ (sc l = none → ∃ r, e = .returned (.tuple #[r, .bool false])) ∧ Keep w w' := by
  go_enter Try.func17, Try.ntmps17
  go_wp2_with fail
  refine (scalars_c v l w hs hl).mono ?_
  rintro e w1 ⟨h1, h2, k1⟩
  cases hsc : sc l with
  | none =>
    obtain ⟨r, rfl⟩ := h2 hsc
    have HSC := Hid.mk hsc
    clear h1 h2 hsc
    go_wp2
    go_ret2
    exact ⟨fun all h => absurd (HSC.out.symm.trans h) (by simp), fun _ => ⟨_, rfl⟩, k1.alloc _⟩
  | some all =>
    obtain ⟨r, rfl, own1⟩ := h1 all hsc
    obtain ⟨hall, _, hle⟩ := sc_bound _ _ _ hsc
    obtain ⟨a, c, hr, hac, hcm, hca⟩ := own1.sl
    rw [List.length_map] at hr hac
    unfold maxLen at hcm
    subst hr
    have HSC := Hid.mk hsc
    clear h1 h2 hsc
    go_wp2_with fail
    go_loopw [6, 7] (fun ov iv wr => ∃ k : Nat, k ≤ all.length ∧ iv = .int .i64 k ∧ Own w.heap.size 5 wr ov ((u16s (all.take k)).map cb) ∧ Keep w1 wr) (fun _ iv _ => all.length - (intOf iv).toNat)
    case atStart => exact ⟨0, by omega, rfl, Own.lit [] k1.size (by simp), (Keep.refl _).alloc _⟩
    case round =>
      obtain ⟨k, hk, rfl, hown, kw⟩ := hrel
      by_cases hlt : k < all.length
      · obtain ⟨b, o, rfl, hc⟩ := hca k (ci all[k]) (by simp [hlt])
        replace hc := kw.cell hc
        unfold ci at hc
        have hsk := hall all[k] (List.getElem_mem hlt)
        have htk : u16s (all.take (k + 1)) = u16s (all.take k) ++ sp16 all[k] := by rw [List.take_succ_eq_append_getElem hlt, u16s_snoc]
        have hcb := (isSc_iff _).1 hsk
        have hlen : (u16s (all.take k)).length ≤ 4 * k := by
          have : ∀ q : List Nat, (u16s q).length ≤ 4 * q.length := fun q => by
            induction q with
            | nil => simp [u16s]
            | cons x r ih =>
              simp only [u16s, List.length_append, List.length_cons]
              have := sp16_length x
              split at this <;> omega
          have h := this (all.take k)
          rw [List.length_take] at h
          omega
        generalize all[k] = cc at *
        have HT := Hid.mk htk
        have HCB := Hid.mk hcb
        have i1 : (k : Int) < all.length := by omega
        clear htk hcb hsk
        go_wp2_with fail
        refine (spell16_c cc wr (by have := HCB.out; omega)).mono ?_
        rintro e w2 ⟨v2, rfl, ow2, k2⟩
        go_wp2_with fail
        have hl16 := sp16_length cc
        refine (join_c _ _ (u16s (all.take k)) (sp16 cc) w2 (hown.keep k2).bs ow2.bs (by split at hl16 <;> omega)).mono ?_
        rintro e w3 ⟨r3, rfl, ow3, k3⟩
        go_wp2
        go_roundw
        case rel =>
          have ks := (k1.trans (kw.trans k2)).size
          exact ⟨k + 1, by omega, by go_num, by rw [HT.out]; exact ow3.mono ks, (kw.trans k2).trans k3⟩
        case measure => simp [intOf]; omega
      · have i1 : ¬ (k : Int) < all.length := by omega
        go_wp2
        go_ret2
        rw [List.take_of_length_le (by omega)] at hown
        exact ⟨fun all' h => ⟨_, rfl, (by have := Option.some.inj (HSC.out.symm.trans h); rw [← this]; exact hown)⟩, fun h => absurd (HSC.out.symm.trans h) (by simp), k1.trans kw⟩

def num (l : List UInt8) : Nat := l.foldl (fun v x => v * 256 + x.toNat) 0
theorem num_snoc (l : List UInt8) (x : UInt8) : num (l ++ [x]) = num l * 256 + x.toNat := by simp [num]
theorem num_lt : ∀ l : List UInt8, num l < 256 ^ l.length := fun l => by
  have : ∀ (m : List UInt8), num m.reverse < 256 ^ m.length := fun m => by
    induction m with
    | nil => simp [num]
    | cons x r ih =>
      rw [List.reverse_cons, num_snoc, List.length_cons, Nat.pow_succ]
      have := UInt8.toNat_lt x
      omega
  have h := this l.reverse
  rwa [List.reverse_reverse, List.length_reverse] at h

set_option maxRecDepth 10000 in
set_option maxHeartbeats 400000 in
theorem number_c (v : Value) (l : List UInt8) (w : World) (hs : Bs w v l) (hl : l.length ≤ 7) :
    Calls Try.prog 21 #[v] w fun e w' => e = .returned (.int .u64 (num l : Nat)) ∧ w' = w := by
  obtain ⟨a, c, rfl, hac, hcm, hca⟩ := hs.form
  unfold maxLen at hcm
  go_enter Try.func21, Try.ntmps21
  go_wp2
  go_loop [3, 4] (fun vv iv => ∃ k : Nat, k ≤ l.length ∧ iv = .int .i64 k ∧ vv = .int .u64 (num (l.take k) : Nat)) (fun _ iv => l.length - (intOf iv).toNat)
  case atStart => exact ⟨0, by omega, rfl, rfl⟩
  case round =>
    obtain ⟨k, hk, rfl, rfl⟩ := hrel
    by_cases hlt : k < l.length
    · obtain ⟨b, o, rfl, hc⟩ := hca k hlt
      have hn := num_snoc (l.take k) l[k]
      rw [← List.take_succ_eq_append_getElem hlt] at hn
      have hb : (num (l.take k) : Int) < 281474976710656 := by
        have h1 := num_lt (l.take k)
        rw [List.length_take, Nat.min_eq_left hk] at h1
        have h2 : (256 : Nat) ^ k ≤ 256 ^ 6 := Nat.pow_le_pow_right (by decide) (by omega)
        have h3 : (256 : Nat) ^ 6 = 281474976710656 := by decide
        omega
      generalize num (l.take k) = q at *
      have hy := UInt8.toNat_lt l[k]
      generalize l[k] = y at *
      have HN := Hid.mk hn
      clear hn
      have i1 : (k : Int) < l.length := by omega
      go_wp2
      go_round
      case rel => exact ⟨k + 1, by omega, by go_num, by rw [HN.out]; go_num⟩
      case measure => simp [intOf]; omega
    · have i1 : ¬ (k : Int) < l.length := by omega
      have ht : l.take k = l := List.take_of_length_le (by omega)
      rw [ht]
      clear ht
      go_wp2
      go_ret
      exact ⟨rfl, rfl⟩

theorem or_zero_iff (x y : UInt8) : (x ||| y) = 0 ↔ x = 0 ∧ y = 0 := by
  constructor
  · intro h
    have h1 : x.toNat ||| y.toNat = 0 := by
      have := congrArg UInt8.toNat h
      rwa [UInt8.toNat_or] at this
    have h2 := Nat.or_eq_zero_iff.1 h1
    exact ⟨UInt8.toNat_inj.1 h2.1, UInt8.toNat_inj.1 h2.2⟩
  · rintro ⟨rfl, rfl⟩; rfl
theorem xor_zero_iff (x y : UInt8) : (x ^^^ y) = 0 ↔ x = y := by
  constructor
  · intro h
    have h1 : x.toNat ^^^ y.toNat = 0 := by
      have := congrArg UInt8.toNat h
      rwa [UInt8.toNat_xor] at this
    have h2 : x.toNat ^^^ y.toNat ^^^ y.toNat = x.toNat := by rw [Nat.xor_assoc, Nat.xor_self, Nat.xor_zero]
    rw [h1, Nat.zero_xor] at h2
    exact UInt8.toNat_inj.1 h2.symm
  · rintro rfl
    apply UInt8.toNat_inj.1
    rw [UInt8.toNat_xor, Nat.xor_self]; rfl

set_option maxRecDepth 10000 in
set_option maxHeartbeats 400000 in
theorem equal_c (v v' : Value) (la lb : List UInt8) (w : World) (ha : Bs w v la) (hb : Bs w v' lb) :
    Calls Try.prog 12 #[v, v'] w fun e w' => e = .returned (.bool (decide (la = lb))) ∧ Keep w w' := by
  obtain ⟨a, c, rfl, hac, hcm, hca⟩ := ha.form
  obtain ⟨a', c', rfl, hac', hcm', hcb⟩ := hb.form
  unfold maxLen at hcm hcm'
  by_cases hne : la.length = lb.length
  · have hne' : ((la.length : Int) != (lb.length : Int)) = false := by simp; omega
    have HNE := Hid.mk hne
    clear hne
    go_enter Try.func12, Try.ntmps12
    go_wp2
    go_loopw [5, 14] (fun dv i wr => ∃ (k : Nat) (d : UInt8), k ≤ la.length ∧ i = .int .i64 k ∧ dv = .int .u8 d.toNat ∧ (d = 0 ↔ la.take k = lb.take k) ∧ Keep w wr) (fun _ i _ => la.length - (intOf i).toNat)
    case atStart => exact ⟨0, 0, by omega, rfl, rfl, by simp, Keep.refl _⟩
    case round =>
      obtain ⟨k, d, hk, rfl, rfl, ht, kw⟩ := hrel
      by_cases hlt : k < la.length
      · have hlb : k < lb.length := by rw [← HNE.out]; exact hlt
        obtain ⟨b, o, rfl, h1⟩ := hca k hlt
        obtain ⟨b', o', rfl, h2⟩ := hcb k hlb
        replace h1 := kw.cell h1
        replace h2 := kw.cell h2
        have hlt' : (k : Int) < la.length := by omega
        have hlb' : (k : Int) < lb.length := by omega
        have hg : (0 : Int) ≤ k := by omega
        have hx := bits_xor8 la[k] lb[k]
        have ho := bits_or8 d (la[k] ^^^ lb[k])
        have htk : la.take (k + 1) = lb.take (k + 1) ↔ la.take k = lb.take k ∧ la[k] = lb[k] := by
          rw [List.take_succ_eq_append_getElem hlt, List.take_succ_eq_append_getElem hlb]
          constructor
          · intro h
            have := List.append_inj h (by simp; omega)
            exact ⟨this.1, by simpa using this.2⟩
          · rintro ⟨h3, h4⟩; rw [h3, h4]
        have HT := Hid.mk htk
        have HD := Hid.mk ht
        clear htk ht
        go_wp2
        go_quiet (fail)
        go_wp2
        go_roundw
        case rel =>
          refine ⟨k + 1, d ||| (la[k] ^^^ lb[k]), by omega, by go_num, by first | rfl | (rw [← UInt8.toNat_xor, bits_or8]), ?_, kw.drewN _⟩
          rw [or_zero_iff, xor_zero_iff, HT.out, HD.out]
        case measure => simp [intOf]; omega
      · have hlt' : ¬ (k : Int) < la.length := by omega
        rw [List.take_of_length_le (by omega), List.take_of_length_le (by have := HNE.out; omega)] at ht
        have HD := Hid.mk ht
        clear ht
        go_wp2
        go_ret
        refine ⟨ret_bool ?_, kw⟩
        by_cases he : la = lb
        · have := HD.out.2 he
          subst this
          rw [decide_eq_true he]; rfl
        · have h0 : d ≠ 0 := fun h => he (HD.out.1 h)
          rw [decide_eq_false he, beq_eq_false_iff_ne]
          intro h
          exact h0 (UInt8.toNat_inj.1 (by simpa using h))
  · have hne' : ((la.length : Int) != (lb.length : Int)) = true := by simp; omega
    go_enter Try.func12, Try.ntmps12
    go_wp2
    go_ret
    exact ⟨ret_bool (decide_eq_false (fun e => hne (by rw [e]))).symm, Keep.refl _⟩
end Go.Proofs.Qxb6500770a
