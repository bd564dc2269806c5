/- branchfsm: Add. -/
import Derived.Test.Qxb6500766aRa
import Derived.Deep.CutRange
namespace Go.Proofs.Qxb6500766a
open Go.RowKit Go.Qm
set_option linter.unusedVariables false
set_option linter.unusedSimpArgs false
attribute [local go_sem ↓] Go.wp_at_zero Go.wp_at_succ
theorem raw_read {B : Nat} {w : World} {v : Value} {rs : List (List UInt8 × Int)} (h : RawO B w v rs) : ∃ a cap, v = .slice a rs.length cap ∧ rs.length ≤ cap ∧ cap ≤ 2 ^ 63 - 1 ∧ ∀ k (hk : k < rs.length), ∃ g, a = some ⟨g, 0, none⟩ ∧ g < w.heap.size ∧ ∀ W : World, W.heap[g]? = w.heap[g]? → W.cell? ⟨g, k * 2, none⟩ = some (str rs[k].1) ∧ W.cell? ⟨g, k * 2 + 1, none⟩ = some (.int .i64 rs[k].2) := by
  rcases h.form with ⟨rfl, rfl⟩ | ⟨g, cap, cur, rfl, hBg, hA, hnc, hcm, hcs, htk⟩
  · exact ⟨none, 0, rfl, Nat.le_refl _, by omega, fun k hk => by simp at hk⟩
  · refine ⟨_, cap, rfl, hnc, by unfold maxLen at hcm; exact hcm, fun k hk => ⟨g, rfl, hA.lt, fun W hW => ?_⟩⟩
    have hA' : Arr W g 62 cur := hW.trans hA
    have x0 := flat_take_get rawC_length htk k 0 hk (by omega)
    rw [Nat.add_zero] at x0
    exact ⟨(hA'.cell _).trans x0, (hA'.cell _).trans (flat_take_get rawC_length htk k 1 hk (by omega))⟩
def insR (x : List UInt8 × Int) : List (List UInt8 × Int) → List (List UInt8 × Int)
  | [] => [x]
  | r :: l => if lessB x.1 r.1 = true then x :: r :: l else r :: insR x l
def hasR (name : List UInt8) (rs : List (List UInt8 × Int)) : Bool := rs.any (fun r => r.1 == name)
def AddP (w : World) (gs ts d l : Nat) (vs : List Value) (rs : List (List UInt8 × Int)) (name : List UInt8) (kind : Int) (e : Ending) (w' : World) : Prop :=
  (hasR name rs = true ∧ e = .returned (.int .i64 2) ∧ Keep w w') ∨ (hasR name rs = false ∧ 12 ≤ rs.length ∧ e = .returned (.int .i64 3) ∧ Keep w w') ∨
  (hasR name rs = false ∧ rs.length < 12 ∧ e = .returned (.int .i64 0) ∧ ∃ v', RawO w.heap.size w' v' (insR (name, kind) rs) ∧ (∃ a i j, v' = .slice a i j) ∧ Arr w' gs ts (vs.set (d * 8 + l) v') ∧ w.grownBy w' (some gs))
theorem has_take {rs : List (List UInt8 × Int)} {name : List UInt8} {k : Nat} (h : k < rs.length) (h1 : hasR name (rs.take k) = false) (h2 : rs[k].1 ≠ name) : hasR name (rs.take (k + 1)) = false := by
  unfold hasR at *
  rw [List.take_succ_eq_append_getElem h, List.any_append, h1]
  simpa using h2
theorem has_at {rs : List (List UInt8 × Int)} {name : List UInt8} {k : Nat} (h : k < rs.length) (h2 : rs[k].1 = name) : hasR name rs = true := by
  unfold hasR
  rw [List.any_eq_true]
  exact ⟨rs[k], List.getElem_mem h, by simpa using h2⟩
set_option maxRecDepth 2000 in
set_option maxHeartbeats 4000000 in
theorem add_c (B gs ts d l : Nat) (vs : List Value) (v : Value) (rs : List (List UInt8 × Int)) (name : List UInt8) (kind : Int) (w : World) (hA : Arr w gs ts vs) (hv : vs[d * 8 + l]? = some v) (hr : RawO B w v rs) (hd : d < 24) (hl : l < 8) (hlen : rs.length ≤ 1000)
    (hne : name ≠ []) (hk1 : 1 ≤ kind) (hk4 : kind ≤ 4) (hnl : name.length ≤ 1000000) (hrl : ∀ r ∈ rs, r.1.length ≤ 1000000) :
    Calls Try.prog 26 #[.pointer (some ⟨gs, 0, none⟩), .int .i64 d, .int .i64 l, str name, .int .i64 kind] w fun e w' => AddP w gs ts d l vs rs name kind e w' := by
  have IR := inRange_c d l w
  rw [show (dirB d && layB l) = true by simp [dirB, layB]; omega] at IR
  have i1 : (d : Int) < 24 := by omega
  have i2 : (l : Int) < 8 := by omega
  have n1 : (name == []) = false := by simpa using hne
  have n2 : ¬ kind < 1 := by omega
  have n3 : ¬ kind > 4 := by omega
  have hc := (hA.cell (d * 8 + l)).trans hv
  obtain ⟨a, cap, rfl, hcap, hcm, hca⟩ := raw_read hr
  go_enter Try.func26, Try.ntmps26
  go_wp2_with fail
  refine IR.mono ?_
  rintro e w1 ⟨rfl, rfl⟩
  go_wp2_with fail
  clear n1 n2 n3 IR
  go_loopg [12] rs.length (fun gk iv wr => ∃ k : Nat, k + gk = rs.length ∧ iv = .int .i64 k ∧ hasR name (rs.take k) = false ∧ wr = w1)
  case atStart => exact ⟨0, by omega, rfl, rfl, rfl⟩
  case round => as_aux_lemma =>
    obtain ⟨k, hk, rfl, hh, rfl⟩ := hrel
    have HK := Hid.mk hk
    have HH := Hid.mk hh
    clear hk hh
    by_cases hlt : k < rs.length
    · have j1 : (k : Int) < rs.length := by omega
      obtain ⟨g, rfl, hgl, hcc⟩ := hca k hlt
      have x0 := (hcc wr rfl).1
      by_cases he : rs[k].1 = name
      · have t : (rs[k].1 == name) = true := by simpa using he
        have HH2 := Hid.mk (has_at hlt he)
        clear he hcc
        generalize rs[k] = R at *
        go_wp2_with fail
        go_ret
        exact Or.inl ⟨HH2.out, rfl, Keep.refl _⟩
      · have t : (rs[k].1 == name) = false := by simpa using he
        have HH2 := Hid.mk (has_take hlt HH.out he)
        clear he hcc
        generalize rs[k] = R at *
        go_wp2_with fail
        go_roundg (gk - 1)
        case measure => have := HK.out; omega
        case rel => exact ⟨k + 1, by have := HK.out; omega, by go_num, HH2.out, rfl⟩
    · have j1 : ¬ (k : Int) < rs.length := by omega
      have HN : Hid (hasR name rs = false) := Hid.mk (by have h := HH.out; rw [List.take_of_length_le (by omega)] at h; exact h)
      clear HH
      by_cases h12 : 12 ≤ rs.length
      · have j2 : (rs.length : Int) ≥ 12 := by omega
        go_wp2_with fail
        go_ret
        exact Or.inr (Or.inl ⟨HN.out, h12, rfl, Keep.refl _⟩)
      · have j2 : ¬ (rs.length : Int) ≥ 12 := by omega
        obtain ⟨W0, hW0⟩ : ∃ W0, W0 = wr := ⟨_, rfl⟩
        subst hW0
        go_wp2_with fail
        go_loopg [13, 14, 15] rs.length (fun gk ov pv iv wx => ∃ (k : Nat) (out : List (List UInt8 × Int)) (pl : Bool), k + gk = rs.length ∧ iv = .int .i64 k ∧ pv = .bool pl ∧ out.length ≤ k + pl.toNat ∧ insR (name, kind) rs = out ++ (if pl = true then rs.drop k else insR (name, kind) (rs.drop k)) ∧ RawO W0.heap.size wx ov out ∧ Keep W0 wx)
        case atStart => exact ⟨0, [], false, by omega, rfl, rfl, by simp, rfl, OwnS.nil _ _ _ _ _, Keep.refl _⟩
        case round => as_aux_lemma =>
          obtain ⟨k2, out, pl, hk2, rfl, rfl, hol, hins, oo, kw⟩ := hrel
          have HK2 := Hid.mk hk2
          have HINS := Hid.mk hins
          have HOL := Hid.mk hol
          clear hk2 hins hol
          by_cases hlt2 : k2 < rs.length
          · have j3 : (k2 : Int) < rs.length := by omega
            obtain ⟨g, rfl, hgl, hcc⟩ := hca k2 hlt2
            have hrn := hrl _ (List.getElem_mem hlt2)
            have HDR := Hid.mk (List.drop_eq_getElem_cons hlt2)
            have hcw := hcc wr (kw.block g hgl)
            obtain ⟨x0, x1⟩ := hcw
            have CW := Hid.mk (fun (W : World) (h : Keep wr W) => (⟨h.cell x0, h.cell x1⟩ : W.cell? ⟨g, k2 * 2, none⟩ = some (str rs[k2].1) ∧ W.cell? ⟨g, k2 * 2 + 1, none⟩ = some (.int .i64 rs[k2].2)))
            have hwx := kw.size
            have HCC := Hid.mk hcc
            clear hcc
            generalize rs[k2] = R at *
            obtain ⟨rn, rk⟩ := R
            simp only at x0 x1 hrn
            cases pl with
            | true =>
              have HOL : Hid (out.length ≤ k2 + 1) := HOL
              have HI2 : Hid (insR (name, kind) rs = (out ++ [(rn, rk)]) ++ (if true = true then rs.drop (k2 + 1) else insR (name, kind) (rs.drop (k2 + 1)))) := Hid.mk (by rw [HINS.out, if_pos rfl, if_pos rfl, HDR.out]; simp)
              go_wp2_with (at_builtin; refine wpList_appS (by rfl) _ _ _ (by rfl) rawC Try.underlying59 inf62 rfl (by omega) rawC_length W0.heap.size (by rfl) (oo.alloc _) _ (rn, rk) (by rfl) (Arr.new wr 62 (rawC (rn, rk))) (rawC_one _) (by have := HOL.out; simp only [maxLen]; omega) (by have := HOL.out; omega) (by simp; omega) ?_; intro v' w' hown' hgr hob)
              go_roundg (rs.length - (k2 + 1))
              case measure => have := HK2.out; omega
              case rel => exact ⟨k2 + 1, out ++ [(rn, rk)], true, by omega, by go_num, rfl, by rw [List.length_append]; simp only [List.length_singleton, Bool.toNat_true]; have := HOL.out; omega, HI2.out, hown', (kw.alloc _).grown hgr (fun q hq => (oo.lt q hq).1)⟩
            | false =>
              have HOL : Hid (out.length ≤ k2) := HOL
              have LC := less_c name rn wr hnl hrn
              cases hlb : lessB name rn with
              | true =>
                have HI2 : Hid (insR (name, kind) rs = ((out ++ [(name, kind)]) ++ [(rn, rk)]) ++ (if true = true then rs.drop (k2 + 1) else insR (name, kind) (rs.drop (k2 + 1)))) := Hid.mk (by rw [HINS.out, if_neg (by simp), if_pos rfl, HDR.out, insR, if_pos hlb]; simp)
                rw [hlb] at LC
                go_wp2_with fail
                refine LC.mono ?_
                rintro e wl ⟨rfl, kl⟩
                have ool := oo.keep kl
                have kwl := kw.trans kl
                have hwl := kl.size
                obtain ⟨z0, z1⟩ := CW.out wl kl
                have CL := Hid.mk (fun (W : World) (h : Keep wl W) => CW.out W (kl.trans h))
                go_upto_region 17 with fail
                go_upto_region 19 with (at_builtin; refine wpList_appS (by rfl) _ _ _ (by rfl) rawC Try.underlying59 inf62 rfl (by omega) rawC_length W0.heap.size (by rfl) (ool.alloc _) _ (name, kind) (by rfl) (Arr.new wl 62 (rawC (name, kind))) (rawC_one _) (by have := HOL.out; simp only [maxLen]; omega) (by have := HOL.out; omega) (by simp; omega) ?_; intro v' w' hown' hgr hob)
                have K1 := (kwl.alloc (.cells (rawC (name, kind)).toArray 62)).grown hgr (fun q hq => (ool.lt q hq).1)
                have hc2 := HCC.out w' (K1.block g hgl)
                obtain ⟨y0, y1⟩ := hc2
                have hw1 := K1.size
                have HOL1 : Hid ((out ++ [(name, kind)]).length ≤ k2 + 1) := Hid.mk (by rw [List.length_append]; simp only [List.length_singleton]; have := HOL.out; omega)
                go_wp2_with (at_builtin; refine wpList_appS (by rfl) _ _ _ (by rfl) rawC Try.underlying59 inf62 rfl (by omega) rawC_length W0.heap.size (by rfl) (hown'.alloc _) _ (rn, rk) (by rfl) (Arr.new w' 62 (rawC (rn, rk))) (rawC_one _) (by have := HOL1.out; simp only [maxLen]; omega) (by have := HOL1.out; omega) (by simp; omega) ?_; intro v2 w2 hown2 hgr2 hob2)
                go_roundg (rs.length - (k2 + 1))
                case measure => have := HK2.out; omega
                case rel => exact ⟨k2 + 1, (out ++ [(name, kind)]) ++ [(rn, rk)], true, by omega, by go_num, rfl, by rw [List.length_append]; simp only [List.length_singleton, Bool.toNat_true]; have := HOL1.out; omega, HI2.out, hown2, (K1.alloc _).grown hgr2 (fun q hq => (OwnS.lt hown' q hq).1)⟩
              | false =>
                have HI2 : Hid (insR (name, kind) rs = (out ++ [(rn, rk)]) ++ (if false = true then rs.drop (k2 + 1) else insR (name, kind) (rs.drop (k2 + 1)))) := Hid.mk (by rw [HINS.out, if_neg (by simp), if_neg (by simp), HDR.out, insR, if_neg (by simp [hlb])]; simp)
                rw [hlb] at LC
                go_wp2_with fail
                refine LC.mono ?_
                rintro e wl ⟨rfl, kl⟩
                have ool := oo.keep kl
                have kwl := kw.trans kl
                have hwl := kl.size
                obtain ⟨z0, z1⟩ := CW.out wl kl
                go_wp2_with (at_builtin; refine wpList_appS (by rfl) _ _ _ (by rfl) rawC Try.underlying59 inf62 rfl (by omega) rawC_length W0.heap.size (by rfl) (ool.alloc _) _ (rn, rk) (by rfl) (Arr.new wl 62 (rawC (rn, rk))) (rawC_one _) (by have := HOL.out; simp only [maxLen]; omega) (by have := HOL.out; omega) (by simp; omega) ?_; intro v' w' hown' hgr hob)
                go_roundg (rs.length - (k2 + 1))
                case measure => have := HK2.out; omega
                case rel => exact ⟨k2 + 1, out ++ [(rn, rk)], false, by omega, by go_num, rfl, by rw [List.length_append]; simp only [List.length_singleton, Bool.toNat_false]; have := HOL.out; omega, HI2.out, hown', (kwl.alloc _).grown hgr (fun q hq => (ool.lt q hq).1)⟩
          · have j3 : ¬ (k2 : Int) < rs.length := by omega
            have hw2 := kw.size
            have HD : Hid (rs.drop k2 = []) := Hid.mk (List.drop_of_length_le (by omega))
            cases pl with
            | true =>
              have HI2 : Hid (insR (name, kind) rs = out) := Hid.mk (by rw [HINS.out, if_pos rfl, HD.out, List.append_nil])
              have hAx := hA.keep kw
              have hcx := (hAx.cell (d * 8 + l)).trans hv
              have hfx := hAx.frozen (d * 8 + l)
              rcases oo.form with ⟨rfl, hn0⟩ | ⟨g3, cap3, cur3, rfl, hB3, hA3, hnc3, hcm3, hcs3, htk3⟩
              · exfalso
                subst hn0
                have h := HI2.out
                cases rs with
                | nil => simp [insR] at h
                | cons r l => rw [insR] at h; split at h <;> cases h
              · go_wp2_with fail
                have hgne : gs ≠ g3 := by have := hA.lt; omega
                have OF := World.ownsRow.kept oo (grown_set (grown_refl wr (some gs)) (d * 8 + l) (.slice (some ⟨g3, 0, none⟩) out.length cap3)) (Or.inr (by simp [Value.ownBlock]; omega))
                go_ret
                exact Or.inr (Or.inr ⟨HN.out, by omega, rfl, _, by rw [HI2.out]; exact OF, ⟨_, _, _, rfl⟩, hAx.set _ _, grown_set (keep_grown kw (some gs)) _ _⟩)
            | false =>
              have HI2 : Hid (insR (name, kind) rs = out ++ [(name, kind)]) := Hid.mk (by rw [HINS.out, if_neg (by simp), HD.out]; rfl)
              have HOL : Hid (out.length ≤ 1000) := Hid.mk (by have a := HOL.out; have b := HK2.out; simp only [Bool.toNat_false] at a; omega)
              go_upto_region 22 with (at_builtin; refine wpList_appS (by rfl) _ _ _ (by rfl) rawC Try.underlying59 inf62 rfl (by omega) rawC_length W0.heap.size (by rfl) (oo.alloc _) _ (name, kind) (by rfl) (Arr.new wr 62 (rawC (name, kind))) (rawC_one _) (by have := HOL.out; simp only [maxLen]; omega) (by have := HOL.out; omega) (by simp; omega) ?_; intro v2 w2 hown2 hgr2 hob2)
              have K1 := (kw.alloc (.cells (rawC (name, kind)).toArray 62)).grown hgr2 (fun q hq => (oo.lt q hq).1)
              have hAx := hA.keep K1
              have hcx := (hAx.cell (d * 8 + l)).trans hv
              have hfx := hAx.frozen (d * 8 + l)
              rcases OwnS.form hown2 with ⟨rfl, hn0⟩ | ⟨g3, cap3, cur3, rfl, hB3, hA3, hnc3, hcm3, hcs3, htk3⟩
              · simp at hn0
              · go_wp2_with fail
                have hgne : gs ≠ g3 := by have := hA.lt; omega
                have OF := World.ownsRow.kept hown2 (grown_set (grown_refl w2 (some gs)) (d * 8 + l) (.slice (some ⟨g3, 0, none⟩) (out ++ [(name, kind)]).length cap3)) (Or.inr (by simp [Value.ownBlock]; omega))
                have e1 : (out ++ [(name, kind)]).length = out.length + 1 := by simp
                rw [e1] at OF
                go_ret
                exact Or.inr (Or.inr ⟨HN.out, by omega, rfl, _, by rw [HI2.out]; show World.ownsRow _ _ _ _ _ (out ++ [(name, kind)]).length _; rw [e1]; exact OF, ⟨_, _, _, rfl⟩, hAx.set _ _, grown_set (keep_grown K1 (some gs)) _ _⟩)
end Go.Proofs.Qxb6500766a
