/- foldkeym: compose. -/
import Derived.Test.Qxb6500767aKe
namespace Go.Qm
open Go Go.RowKit
theorem Own.set {B : Nat} {e : TypeId} {w : World} {g n cap : Nat} {xs : List Value} (h : Own B e w (.slice (some ⟨g, 0, none⟩) n cap) xs) (i : Nat) (hi : i < xs.length) (u : Value) : Own B e (w.setCell ⟨g, i, none⟩ u) (.slice (some ⟨g, 0, none⟩) n cap) (xs.set i u) := by
  rcases h.form with ⟨h0, -⟩ | ⟨g', c', sp, hv, hB, hg, hc, hm⟩
  · cases h0
  · simp only [Value.slice.injEq, Option.some.injEq, Addr.mk.injEq, and_true] at hv
    obtain ⟨rfl, rfl, rfl⟩ := hv
    have hb := blk_set hg i u
    rw [List.set_append_left _ _ hi] at hb
    have := Own.of_blk (B := B) (xs := xs.set i u) (sp := sp) hB hb (by rw [List.length_set]; exact hc) hm
    rw [List.length_set] at this
    exact this
theorem Own.cellAt {B : Nat} {e : TypeId} {w : World} {g n cap : Nat} {xs : List Value} (h : Own B e w (.slice (some ⟨g, 0, none⟩) n cap) xs) (i : Nat) {u : Value} (hi : xs[i]? = some u) : w.cell? ⟨g, i, none⟩ = some u ∧ w.frozen? ⟨g, i, none⟩ = false := by
  rcases h.form with ⟨h0, -⟩ | ⟨g', c', sp, hv, hB, hg, hc, hm⟩
  · cases h0
  · simp only [Value.slice.injEq, Option.some.injEq, Addr.mk.injEq, and_true] at hv
    obtain ⟨rfl, rfl, rfl⟩ := hv
    refine ⟨?_, blk_frozen hg i⟩
    rw [blk_cell hg, List.getElem?_append_left (List.getElem?_eq_some_iff.1 hi).1, hi]
end Go.Qm
namespace Go.Proofs.Qxb6500767a
open Go.RowKit Go.Qm
set_option linter.unusedVariables false
set_option linter.unusedSimpArgs false
attribute [local go_sem ↓] Go.wp_at_zero Go.wp_at_succ
def pushC (out : List Int) (st : Option Nat) (c : Int) : List Int × Option Nat := (out ++ [c], if classF c = 0 then some out.length else st)
def nearB (out : List Int) (q : Nat) (c : Int) : Bool := decide (q + 1 = out.length) || decide (classF (out.getD (out.length - 1) 0) < classF c)
def joinB (out : List Int) (c : Int) : Option Nat → Bool
  | none => false
  | some q => nearB out q c
def cmpStep (s : List Int × Option Nat) (c : Int) : List Int × Option Nat :=
  match s.2 with
  | none => pushC s.1 none c
  | some q => if nearB s.1 q c = true ∧ (pairF (s.1.getD q 0) c tbl).2 = true then (s.1.set q (pairF (s.1.getD q 0) c tbl).1, some q) else pushC s.1 (some q) c
def composeF (l : List Int) : List Int := (l.foldl cmpStep ([], none)).1
def stI : Option Nat → Int
  | none => -1
  | some q => q
set_option maxRecDepth 2000 in
set_option maxHeartbeats 2000000 in
theorem compose_c (mv v : Value) (l : List Int) (w : World) (hmv : MapV w mv) (h : Sl w v (l.map rv)) (hl : l.length ≤ 2000) : Calls Try.prog 105 #[mv, v] w fun e w' => ∃ v', e = .returned v' ∧ Own w.heap.size 21 w' v' ((composeF l).map rv) ∧ Keep w w' := by
  obtain ⟨a, c, rfl, hac, hcm, hca⟩ := Sl.get h
  obtain ⟨gm, rfl, hgm⟩ := hmv
  unfold maxLen at hcm
  go_enter Try.func105, Try.ntmps105
  go_wp2_with fail
  go_loopg [5, 6, 7] l.length (fun gk ov sv iv wr => ∃ (k : Nat) (out : List Int) (st : Option Nat), k + gk = l.length ∧ iv = .int .i64 k ∧ sv = .int .i64 (stI st) ∧ (∀ q, st = some q → q < out.length) ∧ out.length ≤ k ∧ (l.take k).foldl cmpStep ([], none) = (out, st) ∧ Own w.heap.size 21 wr ov (out.map rv) ∧ Keep w wr)
  case atStart => exact ⟨0, [], none, by omega, rfl, rfl, by simp, by simp, rfl, World.ownsRow_nil _ _ _ _, Keep.refl _⟩
  case round => as_aux_lemma =>
    obtain ⟨k, out, st, hk, rfl, rfl, hst, ho, hf, oo, kw⟩ := hrel
    have HK := Hid.mk hk
    clear hk
    by_cases hlt : k < l.length
    · have i1 : (k : Int) < l.length := by omega
      have HF : Hid ((l.take (k + 1)).foldl cmpStep ([], none) = cmpStep (out, st) l[k]) := Hid.mk (by rw [List.take_succ_eq_append_getElem hlt, List.foldl_append, hf]; rfl)
      clear hf
      obtain ⟨b, o, rfl, hc⟩ := hca k hlt
      replace hc := kw.cell hc
      generalize l[k] = x at *
      have HST := Hid.mk hst
      clear hst
      obtain ⟨cnd, hcnd⟩ : ∃ cnd, cnd = joinB out x st := ⟨_, rfl⟩
      have HCND := Hid.mk hcnd
      clear hcnd
      rcases oo.form with ⟨hnil, hout0⟩ | ⟨go, co, sp, hov, hBo, hgo, hco, hmo⟩
      · have hout : out = [] := List.map_eq_nil_iff.1 hout0
        subst hout
        have hst0 : st = none := by
          cases st with
          | none => rfl
          | some q => have := HST.out q rfl; simp at this
        subst hst0
        subst hnil
        have HSTEP : Hid ((l.take (k + 1)).foldl cmpStep ([], none) = pushC [] none x) := Hid.mk (by rw [HF.out]; rfl)
        have HOO : Hid ((([] : List Int).map rv).length ≤ 3000) := Hid.mk (by simp)
        have hw := kw.size
        have e1 : stI none = -1 := rfl
        by_cases hz : classF x = 0
        · have kz : (classF x == 0) = true := by simpa using hz
          have HS2 : Hid ((l.take (k + 1)).foldl cmpStep ([], none) = ([] ++ [x], some ([] : List Int).length)) := Hid.mk (by rw [HSTEP.out, pushC, if_pos hz])
          have C2 := fun W => class_c x W
          generalize classF x = kx at *
          clear hz
          go_wp2_with fail
          refine (C2 _).mono ?_
          rintro e y2 ⟨rfl, rfl⟩
          go_upto_region 13 with fail
          generalize hnv : Value.slice none 0 0 = nv at *
          clear hnv
          go_wp2_with (at_builtin; refine wpList_app (by rfl) _ _ _ (by rfl) Try.underlying130 inf21 rfl w.heap.size (oo.alloc _) (Sl.one _) (by simp [Value.oneCell']) (by rfl) (by rfl) (by simp [maxLen]) (by simp) (by simp; omega) ?_; intro v' w' hown' hgr hob)
          go_roundg (l.length - (k + 1))
          case measure => have := HK.out; omega
          case rel => exact ⟨k + 1, [] ++ [x], some ([] : List Int).length, by omega, by go_num, by rfl, by intro q' hq'; cases hq'; simp, by simp, HS2.out, by rw [List.map_append]; exact hown', (kw.alloc _).grown hgr (fun q hq => (oo.lt q hq).1)⟩
        · have kz : (classF x == 0) = false := by simpa using hz
          have HS2 : Hid ((l.take (k + 1)).foldl cmpStep ([], none) = ([] ++ [x], none)) := Hid.mk (by rw [HSTEP.out, pushC, if_neg hz])
          have C2 := fun W => class_c x W
          generalize classF x = kx at *
          clear hz
          go_wp2_with fail
          refine (C2 _).mono ?_
          rintro e y2 ⟨rfl, rfl⟩
          go_upto_region 13 with fail
          generalize hnv : Value.slice none 0 0 = nv at *
          clear hnv
          go_wp2_with (at_builtin; refine wpList_app (by rfl) _ _ _ (by rfl) Try.underlying130 inf21 rfl w.heap.size (oo.alloc _) (Sl.one _) (by simp [Value.oneCell']) (by rfl) (by rfl) (by simp [maxLen]) (by simp) (by simp; omega) ?_; intro v' w' hown' hgr hob)
          go_roundg (l.length - (k + 1))
          case measure => have := HK.out; omega
          case rel => exact ⟨k + 1, [] ++ [x], none, by omega, by go_num, by rfl, by intro q' hq'; rw [List.length_append]; have := HST.out q' hq'; omega, by simp, HS2.out, by rw [List.map_append]; exact hown', (kw.alloc _).grown hgr (fun q hq => (oo.lt q hq).1)⟩
      · rw [List.length_map] at hov hco
        subst hov
        unfold maxLen at hmo
        go_upto_region 7 with fail
        go_cut [41] from 11 to 65 (fun c wx => c = .bool cnd ∧ wx = wr)
        case first => as_aux_lemma =>
          have HEN : Hid (∀ q, st = some q → cnd = nearB out q x) := Hid.mk (fun q hq => by rw [HCND.out, hq]; rfl)
          cases st with
          | none =>
            have e : cnd = false := by rw [HCND.out]; rfl
            subst e
            have e0 : ¬ (stI none) ≥ 0 := by simp [stI]
            have e1 : stI none = -1 := rfl
            go_wp2_with fail
            go_meet
            case rel => exact ⟨rfl, rfl⟩
          | some q =>
            have hq := HST.out q rfl
            have e1 : stI (some q) = (q : Int) := rfl
            have HN := Hid.mk (HEN.out q rfl)
            unfold nearB at HN
            obtain ⟨p, hp⟩ : ∃ p : Nat, p = out.length - 1 := ⟨_, rfl⟩
            rw [← hp] at HN
            have ep : IntKind.i64.wrap ((out.length : Int) - 1) = (p : Int) := by rw [IntKind.wrap_i64] <;> omega
            have e0 : (q : Int) ≥ 0 := by omega
            have cp := (oo.cellAt p (u := .int .i32 (out.getD p 0)) (by rw [List.getElem?_map, List.getD_eq_getElem?_getD, List.getElem?_eq_getElem (by omega)]; rfl)).1
            have ip : (p : Int) < out.length := by omega
            by_cases hqe : q + 1 = out.length
            · have eq : ((q : Int) == (p : Int)) = true := by simp; omega
              have hc1 : cnd = true := by rw [HN.out, decide_eq_true hqe]; rfl
              subst hc1
              clear hqe hp cp
              go_wp2_with fail
              go_meet
              case rel => exact ⟨rfl, rfl⟩
            · have eq : ((q : Int) == (p : Int)) = false := by simp; omega
              have hc1 : cnd = decide (classF (out.getD p 0) < classF x) := by rw [HN.out, decide_eq_false hqe]; rfl
              clear hqe hp
              generalize out.getD p 0 = y at *
              have C1 := fun W => class_c y W
              have C2 := fun W => class_c x W
              generalize classF y = ky at *
              generalize classF x = kx at *
              have HC1 := Hid.mk hc1
              clear hc1 HN
              go_wp2_with fail
              refine (C1 _).mono ?_
              rintro e y1 ⟨rfl, rfl⟩
              go_wp2_with fail
              refine (C2 _).mono ?_
              rintro e y2 ⟨rfl, rfl⟩
              go_wp2_with fail
              go_meet
              case rel => exact ⟨by rw [HC1.out], rfl⟩
        case rest => as_aux_lemma =>
          obtain ⟨rfl, rfl⟩ := hcut
          have HOO : Hid ((out.map rv).length ≤ 3000) := Hid.mk (by simp; omega)
          have hw := kw.size
          cases cnd with
          | false =>
            have HSTEP : Hid ((l.take (k + 1)).foldl cmpStep ([], none) = pushC out st x) := Hid.mk (by
              rw [HF.out]
              cases st with
              | none => rfl
              | some q => unfold cmpStep; dsimp only; rw [if_neg (by rw [show nearB out q x = false from HCND.out.symm]; simp)])
            by_cases hz : classF x = 0
            · have kz : (classF x == 0) = true := by simpa using hz
              have HS2 : Hid ((l.take (k + 1)).foldl cmpStep ([], none) = (out ++ [x], some out.length)) := Hid.mk (by rw [HSTEP.out, pushC, if_pos hz])
              have C2 := fun W => class_c x W
              generalize classF x = kx at *
              clear hz
              go_wp2_with fail
              refine (C2 _).mono ?_
              rintro e y2 ⟨rfl, rfl⟩
              go_wp2_with (at_builtin; refine wpList_app (by rfl) _ _ _ (by rfl) Try.underlying130 inf21 rfl w.heap.size (oo.alloc _) (Sl.one _) (by simp [Value.oneCell']) (by rfl) (by rfl) (by have := HOO.out; simp [maxLen]; omega) (by have := HOO.out; simp; omega) (by simp; omega) ?_; intro v' w' hown' hgr hob)
              go_roundg (l.length - (k + 1))
              case measure => have := HK.out; omega
              case rel => exact ⟨k + 1, out ++ [x], some out.length, by omega, by go_num, by rfl, by intro q' hq'; cases hq'; simp, by rw [List.length_append]; simp; omega, HS2.out, by rw [List.map_append]; exact hown', (kw.alloc _).grown hgr (fun q hq => (oo.lt q hq).1)⟩
            · have kz : (classF x == 0) = false := by simpa using hz
              have HS2 : Hid ((l.take (k + 1)).foldl cmpStep ([], none) = (out ++ [x], st)) := Hid.mk (by rw [HSTEP.out, pushC, if_neg hz])
              have C2 := fun W => class_c x W
              generalize classF x = kx at *
              clear hz
              go_wp2_with fail
              refine (C2 _).mono ?_
              rintro e y2 ⟨rfl, rfl⟩
              go_wp2_with (at_builtin; refine wpList_app (by rfl) _ _ _ (by rfl) Try.underlying130 inf21 rfl w.heap.size (oo.alloc _) (Sl.one _) (by simp [Value.oneCell']) (by rfl) (by rfl) (by have := HOO.out; simp [maxLen]; omega) (by have := HOO.out; simp; omega) (by simp; omega) ?_; intro v' w' hown' hgr hob)
              go_roundg (l.length - (k + 1))
              case measure => have := HK.out; omega
              case rel => exact ⟨k + 1, out ++ [x], st, by omega, by go_num, by rfl, by intro q' hq'; rw [List.length_append]; have := HST.out q' hq'; omega, by rw [List.length_append]; simp; omega, HS2.out, by rw [List.map_append]; exact hown', (kw.alloc _).grown hgr (fun q hq => (oo.lt q hq).1)⟩
          | true =>
            cases st with
            | none => have := HCND.out; simp [joinB] at this
            | some q =>
              have hnb : nearB out q x = true := HCND.out.symm
              have hq := HST.out q rfl
              have e1 : stI (some q) = (q : Int) := rfl
              have cq := oo.cellAt q (u := .int .i32 (out.getD q 0)) (by rw [List.getElem?_map, List.getD_eq_getElem?_getD, List.getElem?_eq_getElem (by omega)]; rfl)
              obtain ⟨cq1, cq2⟩ := cq
              have iq : (q : Int) < out.length := by omega
              have iq0 : (0 : Int) ≤ q := by omega
              have HU : Hid (cmpStep (out, some q) x = if (pairF (out.getD q 0) x tbl).2 = true then (out.set q (pairF (out.getD q 0) x tbl).1, some q) else pushC out (some q) x) := Hid.mk (by unfold cmpStep; dsimp only; rw [hnb]; simp)
              generalize out.getD q 0 = y at *
              have PC := fun W hW => pair_c _ y x W ⟨gm, rfl, hW⟩
              obtain ⟨⟨pr, pb⟩, hpr⟩ : ∃ z, z = pairF y x tbl := ⟨_, rfl⟩
              rw [← hpr] at PC HU
              have hgm' := kw.heap hgm
              clear hpr hnb
              cases pb with
              | true =>
                have HU2 : Hid ((l.take (k + 1)).foldl cmpStep ([], none) = (out.set q pr, some q)) := Hid.mk (by rw [HF.out, HU.out]; rfl)
                have oset := oo.set q (by rw [List.length_map]; exact hq) (.int .i32 pr)
                have HMS : Hid ((out.map rv).set q (.int .i32 pr) = (out.set q pr).map rv) := Hid.mk (by rw [List.map_set])
                rw [HMS.out] at oset
                go_wp2_with fail
                refine (PC _ hgm').mono ?_
                rintro e y2 ⟨rfl, rfl⟩
                go_wp2_with fail
                go_roundg (l.length - (k + 1))
                case measure => have := HK.out; omega
                case rel => exact ⟨k + 1, out.set q pr, some q, by omega, by go_num, rfl, by intro q' hq'; cases hq'; rw [List.length_set]; exact hq, by rw [List.length_set]; omega, HU2.out, oset, kw.setCell hBo _⟩
              | false =>
                have HSTEP : Hid ((l.take (k + 1)).foldl cmpStep ([], none) = pushC out (some q) x) := Hid.mk (by rw [HF.out, HU.out]; rfl)
                by_cases hz : classF x = 0
                · have kz : (classF x == 0) = true := by simpa using hz
                  have HS2 : Hid ((l.take (k + 1)).foldl cmpStep ([], none) = (out ++ [x], some out.length)) := Hid.mk (by rw [HSTEP.out, pushC, if_pos hz])
                  have C2 := fun W => class_c x W
                  generalize classF x = kx at *
                  clear hz
                  go_wp2_with fail
                  refine (PC _ hgm').mono ?_
                  rintro e y1 ⟨rfl, rfl⟩
                  go_wp2_with fail
                  refine (C2 _).mono ?_
                  rintro e y2 ⟨rfl, rfl⟩
                  go_wp2_with (at_builtin; refine wpList_app (by rfl) _ _ _ (by rfl) Try.underlying130 inf21 rfl w.heap.size (oo.alloc _) (Sl.one _) (by simp [Value.oneCell']) (by rfl) (by rfl) (by have := HOO.out; simp [maxLen]; omega) (by have := HOO.out; simp; omega) (by simp; omega) ?_; intro v' w' hown' hgr hob)
                  go_roundg (l.length - (k + 1))
                  case measure => have := HK.out; omega
                  case rel => exact ⟨k + 1, out ++ [x], some out.length, by omega, by go_num, by rfl, by intro q' hq'; cases hq'; simp, by rw [List.length_append]; simp; omega, HS2.out, by rw [List.map_append]; exact hown', (kw.alloc _).grown hgr (fun q hq => (oo.lt q hq).1)⟩
                · have kz : (classF x == 0) = false := by simpa using hz
                  have HS2 : Hid ((l.take (k + 1)).foldl cmpStep ([], none) = (out ++ [x], (some q))) := Hid.mk (by rw [HSTEP.out, pushC, if_neg hz])
                  have C2 := fun W => class_c x W
                  generalize classF x = kx at *
                  clear hz
                  go_wp2_with fail
                  refine (PC _ hgm').mono ?_
                  rintro e y1 ⟨rfl, rfl⟩
                  go_wp2_with fail
                  refine (C2 _).mono ?_
                  rintro e y2 ⟨rfl, rfl⟩
                  go_wp2_with (at_builtin; refine wpList_app (by rfl) _ _ _ (by rfl) Try.underlying130 inf21 rfl w.heap.size (oo.alloc _) (Sl.one _) (by simp [Value.oneCell']) (by rfl) (by rfl) (by have := HOO.out; simp [maxLen]; omega) (by have := HOO.out; simp; omega) (by simp; omega) ?_; intro v' w' hown' hgr hob)
                  go_roundg (l.length - (k + 1))
                  case measure => have := HK.out; omega
                  case rel => exact ⟨k + 1, out ++ [x], (some q), by omega, by go_num, by rfl, by intro q' hq'; rw [List.length_append]; have := HST.out q' hq'; omega, by rw [List.length_append]; simp; omega, HS2.out, by rw [List.map_append]; exact hown', (kw.alloc _).grown hgr (fun q hq => (oo.lt q hq).1)⟩
    · have i1 : ¬ (k : Int) < l.length := by omega
      rw [List.take_of_length_le (by omega)] at hf
      have HE : Hid (composeF l = out) := Hid.mk (by rw [composeF, hf])
      clear hf
      go_wp2_with fail
      go_ret
      rw [HE.out]
      exact ⟨_, rfl, oo, kw⟩
end Go.Proofs.Qxb6500767a
