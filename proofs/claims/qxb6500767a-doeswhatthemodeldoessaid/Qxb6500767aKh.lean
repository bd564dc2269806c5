/- foldkeym: Key. -/
import Derived.Test.Qxb6500767aKf
import Derived.Test.Qxb6500767aKg
namespace Go.Proofs.Qxb6500767a
open Go.RowKit Go.Qm
set_option linter.unusedVariables false
set_option linter.unusedSimpArgs false
attribute [local go_sem ↓] Go.wp_at_zero Go.wp_at_succ
def sepB (x : UInt8) : Bool := (x == 47) || (x == 0)
def whK (s : List UInt8) : Bool := decide (4 ≤ s.length) && (((ByteArray.mk s.toArray).extract 0 4).toList == [46, 119, 104, 46])
def mapK (q : List Int) : List Int := (reoF (q.flatMap (expF 2))).map foldF
/-- The refusal, and the key. -/
def keyR (s : List UInt8) : Int × List UInt8 :=
  if s.length = 0 then (2, []) else if s.length > 255 then (4, []) else if s.any sepB = true then (2, []) else if (s == [46] || s == [46, 46]) = true then (2, []) else
    match decF s.length s with
    | none => (5, [])
    | some q => if whK s = true then (2, []) else (0, encF (composeF (mapK q)))
theorem kr0 {s : List UInt8} (h : s.length = 0) : keyR s = (2, []) := by unfold keyR; rw [if_pos h]
theorem kr4 {s : List UInt8} (h0 : s.length ≠ 0) (h : s.length > 255) : keyR s = (4, []) := by unfold keyR; rw [if_neg h0, if_pos h]
theorem krS {s : List UInt8} (h0 : s.length ≠ 0) (h1 : ¬ s.length > 255) (h : s.any sepB = true) : keyR s = (2, []) := by unfold keyR; rw [if_neg h0, if_neg h1, if_pos h]
theorem krD {s : List UInt8} (h0 : s.length ≠ 0) (h1 : ¬ s.length > 255) (h2 : s.any sepB = false) (h : (s == [46] || s == [46, 46]) = true) : keyR s = (2, []) := by unfold keyR; rw [if_neg h0, if_neg h1, if_neg (by rw [h2]; decide), if_pos h]
theorem krN {s : List UInt8} (h0 : s.length ≠ 0) (h1 : ¬ s.length > 255) (h2 : s.any sepB = false) (h3 : (s == [46] || s == [46, 46]) = false) (h : decF s.length s = none) : keyR s = (5, []) := by unfold keyR; rw [if_neg h0, if_neg h1, if_neg (by rw [h2]; decide), if_neg (by rw [h3]; decide), h]
theorem krW {s : List UInt8} {q : List Int} (h0 : s.length ≠ 0) (h1 : ¬ s.length > 255) (h2 : s.any sepB = false) (h3 : (s == [46] || s == [46, 46]) = false) (h : decF s.length s = some q) (hw : whK s = true) : keyR s = (2, []) := by unfold keyR; rw [if_neg h0, if_neg h1, if_neg (by rw [h2]; decide), if_neg (by rw [h3]; decide), h]; simp [hw]
theorem krK {s : List UInt8} {q : List Int} (h0 : s.length ≠ 0) (h1 : ¬ s.length > 255) (h2 : s.any sepB = false) (h3 : (s == [46] || s == [46, 46]) = false) (h : decF s.length s = some q) (hw : whK s = false) : keyR s = (0, encF (composeF (mapK q))) := by unfold keyR; rw [if_neg h0, if_neg h1, if_neg (by rw [h2]; decide), if_neg (by rw [h3]; decide), h]; simp [hw]
theorem decF_ne {s : List UInt8} {q : List Int} (h : decF s.length s = some q) (h0 : s.length ≠ 0) : q ≠ [] := by
  cases s with
  | nil => simp at h0
  | cons x l =>
    rw [List.length_cons] at h
    unfold decF at h
    rw [if_neg (List.cons_ne_nil _ _)] at h
    split at h
    · cases h
    · cases hd : decF l.length (List.drop _ (x :: l)) with
      | none => rw [hd] at h; cases h
      | some y => rw [hd] at h; simp only [Option.map_some, Option.some.injEq] at h; rw [← h]; simp
theorem decF_le : ∀ (f : Nat) (t : List UInt8) (q : List Int), decF f t = some q → q.length ≤ t.length
  | 0, t, q, h => by unfold decF at h; simp only [Option.some.injEq] at h; rw [← h]; simp
  | f + 1, t, q, h => by
    unfold decF at h
    split at h
    · simp only [Option.some.injEq] at h; rw [← h]; simp
    · split at h
      · cases h
      · rename_i r n hs
        have hn := stepD_n hs
        cases hd : decF f (t.drop n) with
        | none => rw [hd] at h; cases h
        | some y =>
          rw [hd] at h
          simp only [Option.map_some, Option.some.injEq] at h
          have := decF_le f _ y hd
          rw [List.length_drop] at this
          rw [← h, List.length_cons]
          omega
theorem flat_le (q : List Int) : (q.flatMap (expF 2)).length ≤ 3 * q.length := by
  induction q with
  | nil => simp
  | cons x l ih => have := (expand_all x).2.1; simp only [List.flatMap_cons, List.length_append, List.length_cons]; omega
theorem flat_ge (q : List Int) : q.length ≤ (q.flatMap (expF 2)).length := by
  induction q with
  | nil => simp
  | cons x l ih =>
    have h := (expand_all x).2.2
    have : (expF 2 x).length ≠ 0 := fun e => h (List.eq_nil_of_length_eq_zero e)
    simp only [List.flatMap_cons, List.length_append, List.length_cons]; omega
theorem cmp_len (s : List Int × Option Nat) (c : Int) : (cmpStep s c).1.length ≤ s.1.length + 1 ∧ s.1.length ≤ (cmpStep s c).1.length := by
  unfold cmpStep
  split
  · simp [pushC]
  · split
    · simp
    · simp [pushC]
theorem fold_len : ∀ (l : List Int) (s : List Int × Option Nat), (l.foldl cmpStep s).1.length ≤ s.1.length + l.length ∧ s.1.length ≤ (l.foldl cmpStep s).1.length
  | [], s => by simp
  | c :: l, s => by
    have h1 := fold_len l (cmpStep s c)
    have h2 := cmp_len s c
    simp only [List.foldl_cons, List.length_cons]
    omega
theorem composeF_le (l : List Int) : (composeF l).length ≤ l.length := by have := (fold_len l ([], none)).1; simpa [composeF] using this
theorem composeF_ne {l : List Int} (h : l.length ≠ 0) : (composeF l).length ≠ 0 := by
  cases l with
  | nil => simp at h
  | cons c l =>
    have h1 := (fold_len l (cmpStep ([], none) c)).2
    have h2 : (cmpStep ([], none) c).1.length = 1 := by simp [cmpStep, pushC]
    simp only [composeF, List.foldl_cons]
    omega
theorem any_take {s : List UInt8} {k : Nat} (h : k < s.length) (h1 : (s.take k).any sepB = false) (h2 : sepB s[k] = false) : (s.take (k + 1)).any sepB = false := by
  rw [List.take_succ_eq_append_getElem h, List.any_append, h1]; simp [h2]
theorem any_at {s : List UInt8} {k : Nat} (h : k < s.length) (h2 : sepB s[k] = true) : s.any sepB = true := by
  rw [List.any_eq_true]; exact ⟨s[k], List.getElem_mem h, h2⟩
set_option maxRecDepth 2000 in
set_option maxHeartbeats 4000000 in
theorem key_c (s : List UInt8) (w : World) (hs : s.length ≤ 1000000) : Calls Try.prog 98 #[str s] w fun e w' => e = .returned (.tuple #[str (keyR s).2, .int .i64 (keyR s).1]) ∧ Keep w w' := by
  obtain ⟨R, hK⟩ : ∃ R, R = keyR s := ⟨_, rfl⟩
  rw [← hK]
  have HK := Hid.mk hK
  clear hK
  by_cases h0 : s.length = 0
  · have HN : Hid (R = (2, [])) := Hid.mk (by rw [HK.out]; exact kr0 h0)
    have hnil := List.eq_nil_of_length_eq_zero h0
    subst hnil
    go_enter Try.func98, Try.ntmps98
    go_wp2_with fail
    go_ret2
    rw [HN.out]
    exact ⟨rfl, Keep.refl _⟩
  · have i0 : ((s.length : Int) == 0) = false := by simp only [beq_eq_false_iff_ne, ne_eq]; omega
    by_cases h1 : s.length > 255
    · have i1 : (s.length : Int) > 255 := by omega
      have HN : Hid (R = (4, [])) := Hid.mk (by rw [HK.out]; exact kr4 h0 h1)
      go_enter Try.func98, Try.ntmps98
      go_wp2_with fail
      go_ret2
      rw [HN.out]
      exact ⟨rfl, Keep.refl _⟩
    · have i1 : ¬ (s.length : Int) > 255 := by omega
      go_enter Try.func98, Try.ntmps98
      go_wp2_with fail
      clear i0
      go_loopg [4] s.length (fun gk iv wr => ∃ k : Nat, k + gk = s.length ∧ iv = .int .i64 k ∧ (s.take k).any sepB = false ∧ wr = w)
      case atStart => exact ⟨0, by omega, rfl, rfl, rfl⟩
      case round => as_aux_lemma =>
        obtain ⟨k, hk, rfl, hany, rfl⟩ := hrel
        by_cases hlt : k < s.length
        · have j1 : (k : Int) < s.length := by omega
          have HANY := Hid.mk hany
          clear hany
          have hbx := UInt8.toNat_lt s[k]
          cases hsp : sepB s[k] with
          | true =>
            have HN : Hid (R = (2, [])) := Hid.mk (by rw [HK.out]; exact krS h0 h1 (any_at hlt hsp))
            by_cases hx : s[k] = 47
            · have e1 : ((s[k].toNat : Int) == 47) = true := by rw [hx]; rfl
              clear hx hsp HK
              go_wp2_with fail
              go_ret2
              rw [HN.out]
              exact ⟨rfl, Keep.refl _⟩
            · have e1 : ((s[k].toNat : Int) == 47) = false := by
                simp only [beq_eq_false_iff_ne, ne_eq]
                intro e
                exact hx (UInt8.toNat_inj.1 (by have : s[k].toNat = 47 := (by omega); simpa using this))
              have e2 : ((s[k].toNat : Int) == 0) = true := by
                unfold sepB at hsp
                simp only [Bool.or_eq_true, beq_iff_eq] at hsp
                rw [hsp.resolve_left hx]; rfl
              clear hx hsp HK
              go_wp2_with fail
              go_ret2
              rw [HN.out]
              exact ⟨rfl, Keep.refl _⟩
          | false =>
            have HA2 := Hid.mk (any_take hlt HANY.out hsp)
            unfold sepB at hsp
            simp only [Bool.or_eq_false_iff, beq_eq_false_iff_ne, ne_eq] at hsp
            have e1 : ((s[k].toNat : Int) == 47) = false := by
              simp only [beq_eq_false_iff_ne, ne_eq]
              intro e
              exact hsp.1 (UInt8.toNat_inj.1 (by have : s[k].toNat = 47 := (by omega); simpa using this))
            have e2 : ((s[k].toNat : Int) == 0) = false := by
              simp only [beq_eq_false_iff_ne, ne_eq]
              intro e
              exact hsp.2 (UInt8.toNat_inj.1 (by have : s[k].toNat = 0 := (by omega); simpa using this))
            clear hsp
            go_wp2_with fail
            go_roundg (gk - 1)
            case measure => omega
            case rel => exact ⟨k + 1, by omega, by go_num, HA2.out, rfl⟩
        · have j1 : ¬ (k : Int) < s.length := by omega
          rw [List.take_of_length_le (by omega)] at hany
          have HANY := Hid.mk hany
          clear hany
          cases hdd : (s == [46] || s == [46, 46]) with
          | true =>
            have HN : Hid (R = (2, [])) := Hid.mk (by rw [HK.out]; exact krD h0 h1 HANY.out hdd)
            clear HK
            by_cases d1 : s = [46]
            · subst d1
              go_wp2_with fail
              go_ret2
              rw [HN.out]
              exact ⟨rfl, Keep.refl _⟩
            · have d2 : s = [46, 46] := by
                rw [Bool.or_eq_true] at hdd
                rcases hdd with a | a
                · exact absurd (by simpa using a) d1
                · simpa using a
              subst d2
              go_wp2_with fail
              go_ret2
              rw [HN.out]
              exact ⟨rfl, Keep.refl _⟩
          | false =>
            have HDD := Hid.mk hdd
            rw [Bool.or_eq_false_iff] at hdd
            obtain ⟨i2, i3⟩ := hdd
            have DC := decode_c s wr (by omega)
            obtain ⟨D, hD⟩ : ∃ D, D = decF s.length s := ⟨_, rfl⟩
            rw [← hD] at DC
            have HD := Hid.mk hD
            clear hD
            go_wp2_with fail
            clear i2 i3
            refine DC.mono ?_
            rintro e w1 ⟨hdp, k1⟩
            rcases hdp with ⟨hDn, rfl⟩ | ⟨q, v1, hDs, rfl, o1⟩
            · have HN : Hid (R = (5, [])) := Hid.mk (by rw [HK.out]; exact krN h0 h1 HANY.out HDD.out (HD.out.symm.trans hDn))
              go_wp2_with fail
              go_ret2
              rw [HN.out]
              exact ⟨rfl, k1⟩
            · have hdq := HD.out.symm.trans hDs
              obtain ⟨a1, c1, hv1, hc1, hm1, hcell1⟩ := Sl.get o1.sl
              subst hv1
              obtain ⟨wb, hwb⟩ : ∃ b, b = whK s := ⟨_, rfl⟩
              have HWB := Hid.mk hwb
              clear hwb
              go_upto_region 15 with fail
              go_cut [53] from 46 to 53 (fun c wx => c = .bool wb ∧ wx = w1)
              case first => as_aux_lemma =>
                by_cases h4 : 4 ≤ s.length
                · have q1 : (s.length : Int) ≥ 4 := by omega
                  cases hq : (((ByteArray.mk s.toArray).extract 0 4).toList == [46, 119, 104, 46]) with
                  | true =>
                    have e : wb = true := by rw [HWB.out, whK, decide_eq_true h4, hq]; rfl
                    subst e
                    go_wp2_with fail
                    go_meet
                    case rel => exact ⟨rfl, rfl⟩
                  | false =>
                    have e : wb = false := by rw [HWB.out, whK, decide_eq_true h4, hq]; rfl
                    subst e
                    go_wp2_with fail
                    go_meet
                    case rel => exact ⟨rfl, rfl⟩
                · have q1 : ¬ (s.length : Int) ≥ 4 := by omega
                  have e : wb = false := by rw [HWB.out, whK, decide_eq_false h4]; rfl
                  subst e
                  go_wp2_with fail
                  go_meet
                  case rel => exact ⟨rfl, rfl⟩
              case rest => as_aux_lemma =>
                obtain ⟨rfl, rfl⟩ := hcut
                cases wb with
                | true =>
                  have HN : Hid (R = (2, [])) := Hid.mk (by rw [HK.out]; exact krW h0 h1 HANY.out HDD.out hdq HWB.out.symm)
                  go_wp2_with fail
                  go_ret2
                  rw [HN.out]
                  exact ⟨rfl, k1⟩
                | false =>
                  have HKS : Hid (R = (0, encF (composeF (mapK q)))) := Hid.mk (by rw [HK.out]; exact krK h0 h1 HANY.out HDD.out hdq HWB.out.symm)
                  have hq0 := decF_ne hdq h0
                  have hql := decF_le _ _ _ hdq
                  have hq1 : q.length ≠ 0 := fun e => hq0 (List.eq_nil_of_length_eq_zero e)
                  clear HD HK HDD HANY HWB hdq hDs hq0 DC
                  unfold maxLen at hm1
                  go_wp2_with fail
                  refine (mapList_c _).mono ?_
                  rintro e w2 ⟨mv, rfl, hmv, k2⟩
                  go_wp2_with fail
                  go_loopg [8, 9] q.length (fun gk fv iv wr => ∃ (k : Nat) (out : List Int), k + gk = q.length ∧ iv = .int .i64 k ∧ out = (q.take k).flatMap (expF 2) ∧ Own w2.heap.size 21 wr fv (out.map rv) ∧ Keep w2 wr)
                  case atStart => exact ⟨0, [], by omega, rfl, rfl, World.ownsRow_nil _ _ _ _, Keep.refl _⟩
                  case round => as_aux_lemma =>
                    obtain ⟨k, out, hk2, rfl, hout, oo, kw⟩ := hrel
                    have HK2 := Hid.mk hk2
                    clear hk2
                    by_cases hlt2 : k < q.length
                    · have j2 : (k : Int) < q.length := by omega
                      obtain ⟨b, o, rfl, hcx⟩ := hcell1 k hlt2
                      have hcx' := kw.cell (k2.cell hcx)
                      have HO : Hid ((q.take (k + 1)).flatMap (expF 2) = out ++ expF 2 q[k]) := Hid.mk (by rw [List.take_succ_eq_append_getElem hlt2, List.flatMap_append, hout]; simp)
                      have hol : out.length ≤ 3000 := by have := flat_le (q.take k); rw [← hout, List.length_take] at this; omega
                      clear hout
                      generalize q[k] = x at *
                      obtain ⟨hex, hxl, hxn⟩ := expand_all x
                      have hexc := fun W hW => hex W mv hW
                      generalize expF 2 x = X at *
                      have HOL : Hid ((out.map rv).length ≤ 3000 ∧ (X.map rv).length ≤ 3) := Hid.mk (by simp; omega)
                      clear hcx
                      go_wp2_with fail
                      refine (hexc _ (hmv.keep kw)).mono ?_
                      rintro e w4 ⟨v4, rfl, o4, k4⟩
                      have oo4 := oo.keep k4
                      have hsz := (kw.trans k4).size
                      go_wp2_with (at_builtin; refine wpList_app (by rfl) _ _ _ (by rfl) Try.underlying130 inf21 rfl w2.heap.size oo4 o4.sl (rv_one _) (by rfl) (by rfl) (by have := HOL.out; simp only [maxLen]; omega) (by have := HOL.out; omega) hsz ?_; intro v' w' hown' hgr hob)
                      go_roundg (q.length - (k + 1))
                      case measure => have := HK2.out; omega
                      case rel => exact ⟨k + 1, out ++ X, by omega, by go_num, HO.out.symm, by rw [List.map_append]; exact hown', (kw.trans k4).grown hgr (fun q hq => (oo4.lt q hq).1)⟩
                    · have j2 : ¬ (k : Int) < q.length := by omega
                      rw [List.take_of_length_le (by omega)] at hout
                      have hfl := flat_le q
                      have hfg := flat_ge q
                      rw [← hout] at hfl hfg
                      have HM : Hid (mapK q = (reoF out).map foldF) := Hid.mk (by rw [mapK, hout])
                      clear hout
                      rcases oo.form with ⟨-, hn0⟩ | ⟨g, cap, sp, hfv, hBg, hg, hcap, hmc⟩
                      · exfalso
                        rw [List.map_eq_nil_iff.1 hn0, List.length_nil] at hfg
                        omega
                      rw [List.length_map] at hfv hcap
                      subst hfv
                      unfold maxLen at hmc
                      obtain ⟨n, hn⟩ : ∃ n, n = out.length := ⟨_, rfl⟩
                      have RC := reorder_c g n cap out sp wr hg hn (by omega) (by omega) (by omega)
                      have hrl : (reoF out).length = n := by rw [reoF, reoK_length, hn]
                      obtain ⟨m, hm⟩ : ∃ m, m = reoF out := ⟨_, rfl⟩
                      rw [← hm] at RC HM hrl
                      rw [← hn]
                      rw [← hn] at hfl hfg hcap
                      clear hm hn hg oo
                      go_wp2_with fail
                      refine RC.mono ?_
                      rintro e w5 ⟨rfl, hg5, gr5⟩
                      have k5 : Keep w2 w5 := kw.grown gr5 (fun q hq => by simp only [Option.some.injEq] at hq; omega)
                      clear RC gr5
                      have hnl : n ≤ 1000 := by omega
                      clear hcell1
                      go_wp2_with fail
                      go_loopg [10] n (fun gk iv wr => ∃ k : Nat, k + gk = n ∧ iv = .int .i64 k ∧ wr.heap[g]? = some (.cells (((m.take k).map foldF ++ m.drop k).map rv ++ sp).toArray 21 (0, 0)) ∧ Keep w2 wr)
                      case atStart => exact ⟨0, by omega, rfl, by simpa using hg5, k5⟩
                      case round => as_aux_lemma =>
                        obtain ⟨k, hk3, rfl, hbk, kx⟩ := hrel
                        have HK3 := Hid.mk hk3
                        clear hk3
                        by_cases hlt3 : k < n
                        · have j3 : (k : Int) < n := by omega
                          have hkm : k < m.length := by omega
                          have hlen : (((m.take k).map foldF).map rv).length = k := by simp; omega
                          have hspl : ((m.take k).map foldF ++ m.drop k).map rv ++ sp = ((m.take k).map foldF).map rv ++ (rv m[k] :: ((m.drop (k + 1)).map rv ++ sp)) := by rw [List.drop_eq_getElem_cons hkm]; simp only [List.map_append, List.map_cons, List.append_assoc, List.cons_append]
                          rw [hspl] at hbk
                          have hcx := blk_cell hbk k
                          rw [List.getElem?_append_right (by omega), hlen, Nat.sub_self, List.getElem?_cons_zero] at hcx
                          have hfx := blk_frozen hbk k
                          have hset := blk_set hbk k (rv (foldF m[k]))
                          rw [List.set_append_right _ _ (by omega), hlen, Nat.sub_self, List.set_cons_zero] at hset
                          have hnew : ((m.take k).map foldF).map rv ++ (rv (foldF m[k]) :: ((m.drop (k + 1)).map rv ++ sp)) = ((m.take (k + 1)).map foldF ++ m.drop (k + 1)).map rv ++ sp := by rw [List.take_succ_eq_append_getElem hkm]; simp only [List.map_append, List.map_cons, List.map_nil, List.append_assoc, List.cons_append, List.nil_append]
                          have HNEW := Hid.mk hnew
                          have FC := fun W => fold_c m[k] W
                          have HSET : Hid (∀ W, Keep wr W → (W.setCell ⟨g, k, none⟩ (rv (foldF m[k]))).heap[g]? = some (.cells (((m.take (k + 1)).map foldF ++ m.drop (k + 1)).map rv ++ sp).toArray 21 (0, 0))) := Hid.mk (by
                            intro W hW
                            have h := blk_set (hW.heap hbk) k (rv (foldF m[k]))
                            rw [List.set_append_right _ _ (by omega), hlen, Nat.sub_self, List.set_cons_zero, hnew] at h
                            exact h)
                          have CX := Hid.mk (fun (W : World) (hW : Keep wr W) => hW.cell hcx)
                          have FX := Hid.mk (fun (W : World) (hW : Keep wr W) => blk_frozen (hW.heap hbk) k)
                          clear hspl hlen hset hnew hbk
                          generalize m[k] = y at *
                          generalize foldF y = fy at *
                          go_wp2_with fail
                          refine (FC _).mono ?_
                          rintro e w6 ⟨rfl, k6⟩
                          have cx6 := CX.out w6 k6
                          have fx6 := FX.out w6 k6
                          go_wp2_with fail
                          go_roundg (n - (k + 1))
                          case measure => have := HK3.out; omega
                          case rel => exact ⟨k + 1, by omega, by go_num, HSET.out w6 k6, (kx.trans k6).setCell hBg _⟩
                        · have j3 : ¬ (k : Int) < n := by omega
                          rw [List.take_of_length_le (by omega), List.drop_of_length_le (by omega), List.append_nil] at hbk
                          have ob := Own.of_blk (B := w2.heap.size) (xs := (m.map foldF).map rv) hBg hbk (cap := cap) (by rw [List.length_map, List.length_map, hrl]; exact hcap) (by unfold maxLen; omega)
                          rw [List.length_map, List.length_map, hrl] at ob
                          have CC := compose_c mv _ (m.map foldF) wr (hmv.keep kx) ob.sl (by simp; omega)
                          have hcl : (composeF (m.map foldF)).length ≤ 2000 := Nat.le_trans (composeF_le _) (by simp; omega)
                          have HKK : Hid (R = (0, encF (composeF (m.map foldF)))) := Hid.mk (by rw [HKS.out, HM.out])
                          clear HKS HM
                          generalize composeF (m.map foldF) = cf at *
                          clear hbk ob
                          go_wp2_with fail
                          refine CC.mono ?_
                          rintro e w7 ⟨v7, rfl, o7, k7⟩
                          have EC := encode_c v7 cf w7 o7.sl hcl
                          go_wp2_with fail
                          refine EC.mono ?_
                          rintro e w8 ⟨rfl, k8⟩
                          go_wp2_with fail
                          go_ret2
                          rw [HKK.out]
                          exact ⟨rfl, (((k1.trans k2).trans kx).trans k7).trans k8⟩
theorem encF_len : ∀ (l : List Int), l.length ≤ (encF l).length ∧ (encF l).length ≤ 4 * l.length
  | [] => by simp [encF]
  | x :: l => by
    have h1 := encR_length x
    have h2 := encF_len l
    unfold encF at h2 ⊢
    simp only [List.flatMap_cons, List.length_append, List.length_cons]
    omega
theorem mapK_len (q : List Int) : q.length ≤ (mapK q).length ∧ (mapK q).length ≤ 3 * q.length := by
  have h1 := flat_le q
  have h2 := flat_ge q
  unfold mapK
  rw [List.length_map, reoF, reoK_length]
  omega
theorem keyR_ok {s : List UInt8} (h : (keyR s).1 = 0) : (keyR s).2 ≠ [] ∧ (keyR s).2.length ≤ 4000 ∧ s ≠ [] ∧ s.length ≤ 255 := by
  by_cases h0 : s.length = 0
  · rw [kr0 h0] at h; cases h
  by_cases h1 : s.length > 255
  · rw [kr4 h0 h1] at h; cases h
  cases ha : s.any sepB with
  | true => rw [krS h0 h1 ha] at h; cases h
  | false =>
    cases hd : (s == [46] || s == [46, 46]) with
    | true => rw [krD h0 h1 ha hd] at h; cases h
    | false =>
      cases hq : decF s.length s with
      | none => rw [krN h0 h1 ha hd hq] at h; cases h
      | some q =>
        cases hw : whK s with
        | true => rw [krW h0 h1 ha hd hq hw] at h; cases h
        | false =>
          rw [krK h0 h1 ha hd hq hw]
          have hq0 := decF_ne hq h0
          have hq1 : q.length ≠ 0 := fun e => hq0 (List.eq_nil_of_length_eq_zero e)
          have hl := decF_le _ _ _ hq
          have hm := mapK_len q
          have hc := composeF_le (mapK q)
          have hc0 := composeF_ne (l := mapK q) (by omega)
          have he := encF_len (composeF (mapK q))
          refine ⟨fun e => ?_, by show (encF _).length ≤ _; omega, fun e => ?_, by omega⟩
          · have e' : encF (composeF (mapK q)) = [] := e
            rw [e', List.length_nil] at he; omega
          · rw [e] at h0; exact h0 rfl
theorem keyR_bad {s : List UInt8} (h : (keyR s).1 ≠ 0) : (keyR s).2 = [] := by
  by_cases h0 : s.length = 0
  · rw [kr0 h0]
  by_cases h1 : s.length > 255
  · rw [kr4 h0 h1]
  cases ha : s.any sepB with
  | true => rw [krS h0 h1 ha]
  | false =>
    cases hd : (s == [46] || s == [46, 46]) with
    | true => rw [krD h0 h1 ha hd]
    | false =>
      cases hq : decF s.length s with
      | none => rw [krN h0 h1 ha hd hq]
      | some q =>
        cases hw : whK s with
        | true => rw [krW h0 h1 ha hd hq hw]
        | false => rw [krK h0 h1 ha hd hq hw] at h; exact absurd rfl h
end Go.Proofs.Qxb6500767a
