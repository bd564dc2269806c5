/- corem: capped, exprSteps, Iterations. -/
import Derived.Test.Qxb6500772aTa
import Derived.Test.Qxb6500772aBb
namespace Go.Proofs.Qxb6500772a
open Go.RowKit Go.Qm
set_option linter.unusedVariables false
set_option linter.unusedSimpArgs false
attribute [local go_sem ↓] Go.wp_at_zero Go.wp_at_succ
def capI (n : Int) : Int := if 4096 < n then 4097 else n
theorem cap_c (n : Int) : Pure1 87 #[.int .i64 n] (.int .i64 (capI n)) := by
  intro w
  unfold capI
  by_cases h : 4096 < n
  · rw [if_pos h]
    go_enter Try.func87, Try.ntmps87
    go_wp2
    go_ret
    exact ⟨rfl, rfl⟩
  · rw [if_neg h]
    go_enter Try.func87, Try.ntmps87
    go_wp2
    go_ret
    exact ⟨rfl, rfl⟩
def stN (f : EF) (ks : Nat) (n : Nat) : Nat := if f.k = 3 ∧ 0 < f.l then min (min (n + 1 + ks) 4097 + min f.l.toNat 4097) 4097 else min (n + 1 + ks) 4097
/-- The steps of a list of expressions. -/
def stE : EL → Nat → Nat
  | .nil, n => n
  | .cons f k r, n => stE r (stN f (stE k 0) n)
def stX (n : Nat) (x : EF × EL) : Nat := stN x.1 (stE x.2 0) n
theorem stE_fold : ∀ (t : EL) (n : Nat), stE t n = t.toL.foldl stX n
  | .nil, n => rfl
  | .cons f k r, n => by rw [stE, EL.toL, List.foldl_cons, stE_fold r]; rfl
theorem stN_le (f : EF) (ks n : Nat) : stN f ks n ≤ 4097 := by unfold stN; split <;> omega
theorem stX_le (l : List (EF × EL)) : ∀ n, n ≤ 4097 → l.foldl stX n ≤ 4097 := by
  induction l with
  | nil => intro n h; exact h
  | cons x l ih => intro n h; rw [List.foldl_cons]; exact ih _ (stN_le _ _ _)
theorem stE_le (t : EL) : stE t 0 ≤ 4097 := by rw [stE_fold]; exact stX_le _ _ (by omega)
set_option maxRecDepth 4000 in
set_option maxHeartbeats 4000000 in
theorem exprSteps_n {P : Nat → Prop} : ∀ (N : Nat) (t : EL), t.size = N → ∀ (w : World) (v : Value) (rows : List (List Value)), Rows P w v 7 rows → ELW P w t rows → Calls Try.prog 61 #[v] w fun e w' => e = .returned (.int .i64 ((stE t 0 : Nat) : Int)) ∧ Keep w w' := by
  intro N
  induction N using Nat.strongRecOn with
  | _ N ih =>
    intro t hN w v rows hr he
    have hlen := he.len
    obtain ⟨va, vc, hv, v1, v2⟩ := hr.form
    rw [hlen] at hv v1
    subst hv
    have HR := Hid.mk hr
    have HE := Hid.mk he
    have HLEN := Hid.mk hlen
    have HIH : Hid (∀ x ∈ t.toL, ∀ (w : World) (v : Value) (rows : List (List Value)), Rows P w v 7 rows → ELW P w x.2 rows → Calls Try.prog 61 #[v] w fun e w' => e = .returned (.int .i64 ((stE x.2 0 : Nat) : Int)) ∧ Keep w w') := Hid.mk (fun x hx => ih x.2.size (by rw [← hN]; exact EL.mem_size hx) x.2 rfl)
    unfold maxLen at v2
    clear hr he hlen ih hN
    have HST : Hid (stE t 0 = t.toL.foldl stX 0) := Hid.mk (stE_fold t 0)
    generalize stE t 0 = res at *
    unfold EL.len at *
    have hli : (t.toL.length : Int) ≤ 9223372036854775807 := by omega
    go_enter Try.func61, Try.ntmps61
    go_wp2_with fail
    go_loopg [3, 5, 8] t.toL.length (fun gk v3 v5 v8 wr => ∃ (k : Nat), k + gk = t.toL.length ∧ v8 = .int .i64 k ∧ Keep w wr ∧ v3 = .int .i64 (((t.toL.take k).foldl stX 0 : Nat) : Int))
    case atStart => exact ⟨0, by omega, rfl, Keep.refl w, rfl⟩
    case round =>
      obtain ⟨k, hk, rfl, kp, rfl⟩ := hrel
      have HK := Hid.mk hk
      have HKP := Hid.mk kp
      by_cases hlt : k < t.toL.length
      · have j1 : (k : Int) < t.toL.length := by omega
        have j2 : (0 : Int) ≤ k := by omega
        have hrl : k < rows.length := by rw [HLEN.out]; exact hlt
        obtain ⟨kv, kr, e1, e2, e3, e4⟩ := (HE.out.step (KP.of kp)).get k hlt hrl
        obtain ⟨b, o, ha, hp, hb, hc⟩ := (HR.out.step (KP.of kp)).cell hrl
        subst ha
        have c0 := hc 0 (by decide)
        have c1 := hc 1 (by decide)
        have c2 := hc 2 (by decide)
        have c3 := hc 3 (by decide)
        have c4 := hc 4 (by decide)
        have c5 := hc 5 (by decide)
        have c6 := hc 6 (by decide)
        rw [e1] at c0 c1 c2 c3 c4 c5 c6
        simp only [efC, List.getElem?_cons_zero, List.getElem?_cons_succ, Nat.add_zero] at c0 c1 c2 c3 c4 c5 c6
        obtain ⟨ka, kc, hkv, kv1, kv2⟩ := e3.form
        subst hkv
        have IHK := HIH.out t.toL[k] (List.getElem_mem hlt)
        have HF : Hid ((t.toL.take (k + 1)).foldl stX 0 = stN t.toL[k].1 (stE t.toL[k].2 0) ((t.toL.take k).foldl stX 0)) := Hid.mk (by rw [List.take_succ_eq_append_getElem hlt, List.foldl_append]; rfl)
        have hnle : (t.toL.take k).foldl stX 0 ≤ 4097 := stX_le _ _ (by omega)
        have hsle := stE_le t.toL[k].2
        have IH2 := fun W (kk : Keep wr W) => IHK W _ _ (e3.step (KP.of kk)) (e4.step (KP.of kk))
        generalize t.toL[k] = x at *
        obtain ⟨f, xk⟩ := x
        simp only at *
        generalize (t.toL.take k).foldl stX 0 = n at *
        generalize stE xk 0 = ks at *
        have HI2 := Hid.mk IH2
        have i1 : (n : Int) ≤ 4097 := by omega
        have i2 : (ks : Int) ≤ 4097 := by omega
        clear hc e1 e2 e3 e4 hp hb IHK IH2 hk kp hnle hsle hrl
        go_upto_region 5 with fail
        obtain ⟨W, hW⟩ : ∃ W, W = wr.alloc (.cells #[.int .i64 f.k, .int .i64 f.w, .int .i64 f.o, .int .u64 (f.v : Nat), .int .i64 f.c, .int .i64 f.l, .slice ka kr.length kc] 31) := ⟨_, rfl⟩
        rw [← hW]
        have kW : Keep wr W := by rw [hW]; exact (Keep.refl wr).alloc _
        have aW : Arr W wr.heap.size 31 [.int .i64 f.k, .int .i64 f.w, .int .i64 f.o, .int .u64 (f.v : Nat), .int .i64 f.c, .int .i64 f.l, .slice ka kr.length kc] := by rw [hW]; exact Arr.new wr 31 _
        have IH3 := HI2.out W kW
        have HKW := Hid.mk kW
        have HAW := Hid.mk aW
        have d6 := aW.cell 6
        simp only [List.getElem?_cons_zero, List.getElem?_cons_succ] at d6
        generalize wr.heap.size = gA at *
        clear hW kW aW c0 c1 c2 c3 c4 c5 c6
        go_wp2_with fail
        refine IH3.mono ?_
        rintro e w2 ⟨rfl, k2⟩
        have a2 := HAW.out.keep k2
        have d0 := a2.cell 0
        have d5 := a2.cell 5
        simp only [List.getElem?_cons_zero, List.getElem?_cons_succ] at d0 d5
        have HK2 := Hid.mk (HKP.out.trans (HKW.out.trans k2))
        have CP := cap_c ((n : Int) + 1 + ks)
        have ec : capI ((n : Int) + 1 + ks) = ((min (n + 1 + ks) 4097 : Nat) : Int) := by unfold capI; split <;> omega
        rw [ec] at CP
        have hm1 : ((min (n + 1 + ks) 4097 : Nat) : Int) ≤ 4097 := by omega
        have HSN : Hid (stN f ks n = if f.k = 3 ∧ 0 < f.l then min (min (n + 1 + ks) 4097 + min f.l.toNat 4097) 4097 else min (n + 1 + ks) 4097) := Hid.mk rfl
        generalize min (n + 1 + ks) 4097 = n1 at *
        clear k2 a2 d6 IH3 ec
        go_wp2_with fail
        refine (CP _).mono ?_
        rintro e y ⟨rfl, hy⟩
        subst hy
        by_cases hf : f.k = 3
        · by_cases hl0 : 0 < f.l
          · have CL := cap_c f.l
            have ec : capI f.l = ((min f.l.toNat 4097 : Nat) : Int) := by unfold capI; split <;> omega
            rw [ec] at CL
            have hm2 : ((min f.l.toNat 4097 : Nat) : Int) ≤ 4097 := by omega
            rw [if_pos ⟨hf, hl0⟩] at HSN
            generalize min f.l.toNat 4097 = l1 at *
            have CM := cap_c ((n1 : Int) + l1)
            have ec2 : capI ((n1 : Int) + l1) = ((min (n1 + l1) 4097 : Nat) : Int) := by unfold capI; split <;> omega
            rw [ec2] at CM
            clear ec ec2
            go_wp2_with fail
            refine (CL _).mono ?_
            rintro e y ⟨rfl, hy⟩
            subst hy
            go_wp2_with fail
            refine (CM _).mono ?_
            rintro e y ⟨rfl, hy⟩
            subst hy
            go_wp2_with fail
            go_roundg (gk - 1)
            case measure => have := HK.out; omega
            case rel => exact ⟨k + 1, by have := HK.out; omega, by go_num, HK2.out, by rw [HF.out, HSN.out]⟩
          · rw [if_neg (fun a => hl0 a.2)] at HSN
            go_wp2_with fail
            go_roundg (gk - 1)
            case measure => have := HK.out; omega
            case rel => exact ⟨k + 1, by have := HK.out; omega, by go_num, HK2.out, by rw [HF.out, HSN.out]⟩
        · have hf2 : (f.k == 3) = false := by simpa using hf
          rw [if_neg (fun a => hf a.1)] at HSN
          go_wp2_with fail
          go_roundg (gk - 1)
          case measure => have := HK.out; omega
          case rel => exact ⟨k + 1, by have := HK.out; omega, by go_num, HK2.out, by rw [HF.out, HSN.out]⟩
      · have j1 : ¬ (k : Int) < t.toL.length := by omega
        obtain rfl : k = t.toL.length := by omega
        rw [List.take_length, ← HST.out]
        clear hk kp
        go_wp2_with fail
        go_ret
        exact ⟨rfl, HKP.out⟩
theorem exprSteps_c {P : Nat → Prop} {t : EL} {w : World} {v : Value} {rows : List (List Value)} (h1 : Rows P w v 7 rows) (h2 : ELW P w t rows) : Calls Try.prog 61 #[v] w fun e w' => e = .returned (.int .i64 ((stE t 0 : Nat) : Int)) ∧ Keep w w' := exprSteps_n t.size t rfl w v rows h1 h2
end Go.Proofs.Qxb6500772a
