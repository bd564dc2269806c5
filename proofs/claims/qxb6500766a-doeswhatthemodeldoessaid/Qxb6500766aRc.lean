/- branchfsm: Remove; what is refused. -/
import Derived.Test.Qxb6500766aRb
namespace Go.Proofs.Qxb6500766a
open Go.RowKit Go.Qm
set_option linter.unusedVariables false
set_option linter.unusedSimpArgs false
attribute [local go_sem ↓] Go.wp_at_zero Go.wp_at_succ
def outR (name : List UInt8) (rs : List (List UInt8 × Int)) : List (List UInt8 × Int) := rs.filter (fun r => r.1 != name)
def RemP (w : World) (gs ts d l : Nat) (vs : List Value) (rs : List (List UInt8 × Int)) (name : List UInt8) (e : Ending) (w' : World) : Prop :=
  ((outR name rs).length = rs.length ∧ e = .returned (.int .i64 4) ∧ Keep w w') ∨
  ((outR name rs).length ≠ rs.length ∧ e = .returned (.int .i64 0) ∧ ∃ v', RawO w.heap.size w' v' (outR name rs) ∧ (∃ a i j, v' = .slice a i j) ∧ Arr w' gs ts (vs.set (d * 8 + l) v') ∧ w.grownBy w' (some gs))
theorem out_le (name : List UInt8) (rs : List (List UInt8 × Int)) : (outR name rs).length ≤ rs.length := List.length_filter_le _ _
theorem out_take {rs : List (List UInt8 × Int)} {name : List UInt8} {k : Nat} (h : k < rs.length) : outR name (rs.take (k + 1)) = outR name (rs.take k) ++ (if rs[k].1 = name then [] else [rs[k]]) := by
  unfold outR
  rw [List.take_succ_eq_append_getElem h, List.filter_append]
  congr 1
  by_cases e : rs[k].1 = name
  · rw [if_pos e]; simp [e]
  · rw [if_neg e]; simp [e]
set_option maxRecDepth 2000 in
set_option maxHeartbeats 4000000 in
theorem remove_c (B gs ts d l : Nat) (vs : List Value) (v : Value) (rs : List (List UInt8 × Int)) (name : List UInt8) (w : World) (hA : Arr w gs ts vs) (hv : vs[d * 8 + l]? = some v) (hr : RawO B w v rs) (hd : d < 24) (hl : l < 8) (hlen : rs.length ≤ 1000)
    (hne : name ≠ []) : Calls Try.prog 28 #[.pointer (some ⟨gs, 0, none⟩), .int .i64 d, .int .i64 l, str name] w fun e w' => RemP w gs ts d l vs rs name e w' := by
  have IR := inRange_c d l w
  rw [show (dirB d && layB l) = true by simp [dirB, layB]; omega] at IR
  have i1 : (d : Int) < 24 := by omega
  have i2 : (l : Int) < 8 := by omega
  have n1 : (name == []) = false := by simpa using hne
  have hc := (hA.cell (d * 8 + l)).trans hv
  obtain ⟨a, cap, rfl, hcap, hcm, hca⟩ := raw_read hr
  go_enter Try.func28, Try.ntmps28
  go_wp2_with fail
  refine IR.mono ?_
  rintro e w1 ⟨rfl, rfl⟩
  obtain ⟨W0, hW0⟩ : ∃ W0, W0 = w1 := ⟨_, rfl⟩
  subst hW0
  go_wp2_with fail
  clear n1 IR
  go_loopg [10, 11] rs.length (fun gk ov iv wx => ∃ k : Nat, k + gk = rs.length ∧ iv = .int .i64 k ∧ RawO W0.heap.size wx ov (outR name (rs.take k)) ∧ Keep W0 wx)
  case atStart => exact ⟨0, by omega, rfl, OwnS.nil _ _ _ _ _, Keep.refl _⟩
  case round => as_aux_lemma =>
    obtain ⟨k, hk, rfl, oo, kw⟩ := hrel
    have HK := Hid.mk hk
    clear hk
    by_cases hlt : k < rs.length
    · have j1 : (k : Int) < rs.length := by omega
      obtain ⟨g, rfl, hgl, hcc⟩ := hca k hlt
      obtain ⟨x0, x1⟩ := hcc wr (kw.block g hgl)
      have HT := Hid.mk (out_take (name := name) hlt)
      have hol : (outR name (rs.take k)).length ≤ k := Nat.le_trans (out_le _ _) (by rw [List.length_take]; omega)
      have HOL := Hid.mk hol
      have hw := kw.size
      clear hcc hol
      generalize rs[k] = R at *
      generalize outR name (rs.take k) = out at *
      obtain ⟨rn, rk⟩ := R
      simp only at x0 x1 HT
      by_cases he : rn = name
      · have t : (rn != name) = false := by simpa using he
        have t2 : (rn == name) = true := by simpa using he
        have HT2 : Hid (outR name (rs.take (k + 1)) = out) := Hid.mk (by rw [HT.out, if_pos he, List.append_nil])
        clear he HT
        go_wp2_with fail
        go_roundg (rs.length - (k + 1))
        case measure => have := HK.out; omega
        case rel => exact ⟨k + 1, by omega, by go_num, by rw [HT2.out]; exact oo, kw⟩
      · have t : (rn != name) = true := by simpa using he
        have t2 : (rn == name) = false := by simpa using he
        have HT2 : Hid (outR name (rs.take (k + 1)) = out ++ [(rn, rk)]) := Hid.mk (by rw [HT.out, if_neg he])
        clear he HT
        go_wp2_with (at_builtin; refine wpList_appS (by rfl) _ _ _ (by rfl) rawC Try.underlying59 inf62 rfl (by omega) rawC_length W0.heap.size (by rfl) (oo.alloc _) _ (rn, rk) (by rfl) (Arr.new wr 62 (rawC (rn, rk))) (rawC_one _) (by have := HOL.out; simp only [maxLen]; omega) (by have := HOL.out; omega) (by simp; omega) ?_; intro v' w' hown' hgr hob)
        go_roundg (rs.length - (k + 1))
        case measure => have := HK.out; omega
        case rel => exact ⟨k + 1, by omega, by go_num, by rw [HT2.out]; exact hown', (kw.alloc _).grown hgr (fun q hq => (oo.lt q hq).1)⟩
    · have j1 : ¬ (k : Int) < rs.length := by omega
      rw [List.take_of_length_le (by omega)] at oo
      have hAx := hA.keep kw
      have hcx := (hAx.cell (d * 8 + l)).trans hv
      have hfx := hAx.frozen (d * 8 + l)
      have hol := out_le name rs
      obtain ⟨out, hout⟩ : ∃ o, o = outR name rs := ⟨_, rfl⟩
      rw [← hout] at oo hol
      have HO := Hid.mk hout
      clear hout
      rcases oo.form with ⟨rfl, hn0⟩ | ⟨g3, cap3, cur3, rfl, hB3, hA3, hnc3, hcm3, hcs3, htk3⟩
      · subst hn0
        by_cases hz : rs.length = 0
        · have t : ((0 : Int) == (rs.length : Int)) = true := by simp; omega
          have HZ := Hid.mk hz
          clear hz
          go_wp2_with fail
          go_ret
          exact Or.inl ⟨by rw [← HO.out, HZ.out]; rfl, rfl, kw⟩
        · have t : ((0 : Int) == (rs.length : Int)) = false := by simp; omega
          have HZ := Hid.mk hz
          clear hz
          go_wp2_with fail
          go_ret
          exact Or.inr ⟨by rw [← HO.out]; exact fun e => HZ.out e.symm, rfl, _, by rw [← HO.out]; exact OwnS.nil _ _ _ _ _, ⟨_, _, _, rfl⟩, hAx.set _ _, grown_set (keep_grown kw (some gs)) _ _⟩
      · by_cases hz : out.length = rs.length
        · have t : ((out.length : Int) == (rs.length : Int)) = true := by simp; omega
          have HZ := Hid.mk hz
          clear hz
          go_wp2_with fail
          go_ret
          exact Or.inl ⟨by rw [← HO.out, HZ.out], rfl, kw⟩
        · have t : ((out.length : Int) == (rs.length : Int)) = false := by simp; omega
          have HZ := Hid.mk hz
          clear hz
          go_wp2_with fail
          have hgne : gs ≠ g3 := by have := hA.lt; omega
          have OF := World.ownsRow.kept oo (grown_set (grown_refl wr (some gs)) (d * 8 + l) (.slice (some ⟨g3, 0, none⟩) out.length cap3)) (Or.inr (by simp [Value.ownBlock]; omega))
          go_ret
          exact Or.inr ⟨by rw [← HO.out]; exact HZ.out, rfl, _, by rw [← HO.out]; exact OF, ⟨_, _, _, rfl⟩, hAx.set _ _, grown_set (keep_grown kw (some gs)) _ _⟩
def badA (d l : Int) (name : List UInt8) (kind : Int) : Bool := !(dirB d && layB l) || (name == []) || decide (kind < 1) || decide (kind > 4)
theorem add_bad_c (p : Value) (d l : Int) (name : List UInt8) (kind : Int) (w : World) (h : badA d l name kind = true) :
    Calls Try.prog 26 #[p, .int .i64 d, .int .i64 l, str name, .int .i64 kind] w fun e w' => e = .returned (.int .i64 1) ∧ w' = w := by
  have IR := inRange_c d l w
  unfold badA at h
  cases hb : (dirB d && layB l) with
  | false =>
    rw [hb] at IR
    clear h
    go_enter Try.func26, Try.ntmps26
    go_wp2_with fail
    refine IR.mono ?_
    rintro e w1 ⟨rfl, rfl⟩
    go_wp2_with fail
    go_ret
    exact ⟨rfl, rfl⟩
  | true =>
    rw [hb] at IR h
    cases hn : (name == []) with
    | true =>
      clear h
      go_enter Try.func26, Try.ntmps26
      go_wp2_with fail
      refine IR.mono ?_
      rintro e w1 ⟨rfl, rfl⟩
      go_wp2_with fail
      go_ret
      exact ⟨rfl, rfl⟩
    | false =>
      rw [hn] at h
      by_cases h1 : kind < 1
      · clear h
        go_enter Try.func26, Try.ntmps26
        go_wp2_with fail
        refine IR.mono ?_
        rintro e w1 ⟨rfl, rfl⟩
        go_wp2_with fail
        go_ret
        exact ⟨rfl, rfl⟩
      · have h4 : kind > 4 := by simp at h; omega
        clear h
        go_enter Try.func26, Try.ntmps26
        go_wp2_with fail
        refine IR.mono ?_
        rintro e w1 ⟨rfl, rfl⟩
        go_wp2_with fail
        go_ret
        exact ⟨rfl, rfl⟩
def badR (d l : Int) (name : List UInt8) : Bool := !(dirB d && layB l) || (name == [])
theorem remove_bad_c (p : Value) (d l : Int) (name : List UInt8) (w : World) (h : badR d l name = true) :
    Calls Try.prog 28 #[p, .int .i64 d, .int .i64 l, str name] w fun e w' => e = .returned (.int .i64 1) ∧ w' = w := by
  have IR := inRange_c d l w
  unfold badR at h
  cases hb : (dirB d && layB l) with
  | false =>
    rw [hb] at IR
    clear h
    go_enter Try.func28, Try.ntmps28
    go_wp2_with fail
    refine IR.mono ?_
    rintro e w1 ⟨rfl, rfl⟩
    go_wp2_with fail
    go_ret
    exact ⟨rfl, rfl⟩
  | true =>
    rw [hb] at IR h
    have hn : (name == []) = true := by simpa using h
    clear h
    go_enter Try.func28, Try.ntmps28
    go_wp2_with fail
    refine IR.mono ?_
    rintro e w1 ⟨rfl, rfl⟩
    go_wp2_with fail
    go_ret
    exact ⟨rfl, rfl⟩
end Go.Proofs.Qxb6500766a
