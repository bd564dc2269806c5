/- cipherm: DES's key schedule. -/
import Derived.Test.Qxb6500769aDe
namespace Go.Qm
open Go Go.RowKit
/-- v reads l and lies in another block than the row ov. -/
def Off (w : World) (ov v : Value) (l : List UInt8) : Prop := Bs w v l ∧ l.length ≠ 0 ∧ (∃ g, ov.ownBlock = some g) ∧ v.ownBlock ≠ ov.ownBlock
theorem Off.keep {w w' : World} {ov v : Value} {l : List UInt8} (h : Off w ov v l) (k : Keep w w') : Off w' ov v l := ⟨h.1.keep k, h.2⟩
theorem Off.bs {w : World} {ov v : Value} {l : List UInt8} (h : Off w ov v l) : Bs w v l := h.1
theorem Off.app {w w' : World} {ov v v' : Value} {l : List UInt8} (h : Off w ov v l) (hg : w.grownBy w' ov.ownBlock) (hob : v'.ownBlock = ov.ownBlock ∨ v'.ownBlock = some w.heap.size) : Off w' v' v l := by
  obtain ⟨h1, h2, ⟨g, h3⟩, h4⟩ := h
  rw [h3] at hg h4 hob
  refine ⟨h1.kept hg h4, h2, ?_, ?_⟩
  · rcases hob with e | e <;> exact ⟨_, e⟩
  · rcases hob with e | e
    · rw [e]; exact h4
    · rw [e]; exact h1.block h2 (Nat.le_refl _)
theorem Off.fresh {w w' : World} {ov v : Value} {l : List UInt8} {g : Nat} (h : Own w.heap.size 5 w' v (l.map cb)) (hl : l.length ≠ 0) (h3 : ov.ownBlock = some g) (hg : g < w.heap.size) : Off w' ov v l := by
  refine ⟨h.bs, hl, ⟨g, h3⟩, fun e => ?_⟩
  rw [h3] at e
  have := h.lt g e
  omega
end Go.Qm
namespace Go.Proofs.Qxb6500769a
open Go.RowKit Go.Qm
set_option linter.unusedVariables false
set_option linter.unusedSimpArgs false
attribute [local go_sem ↓] Go.wp_at_zero Go.wp_at_succ

theorem inf27 : (Try.prog.info? 27).map (fun i => (i.zero, i.size, i.bytes)) = some (some (.slice none 0 0), 1, 24) := by kernel_rfl
def cdk (x : List UInt8) : Nat → List UInt8
  | 0 => x
  | k + 1 => shf (cdk x k) (lsh (k + 1))
theorem cdk_length (x : List UInt8) : ∀ k, (cdk x k).length = x.length
  | 0 => rfl
  | k + 1 => by rw [cdk, shf_length, cdk_length x k]
def desK (key : List UInt8) (i : Nat) : List UInt8 :=
  chs (cdk ((chs (toB key) tC1).take 28) (i + 1) ++ cdk ((chs (toB key) tC1).drop 28) (i + 1)) tC2
theorem desK_length (key : List UInt8) (i : Nat) : (desK key i).length = 48 := by rw [desK, chs_length]; rfl
theorem tC1_ok : ∀ n ∈ tC1, 1 ≤ n ∧ n ≤ 64 := by decide
theorem tC2_ok : ∀ n ∈ tC2, 1 ≤ n ∧ n ≤ 56 := by decide
set_option maxHeartbeats 4000000 in
theorem desKeys_c (v : Value) (key : List UInt8) (w : World) (h : Bs w v key) (hl : key.length = 8) :
    Calls Try.prog 71 #[v] w fun e w' => ∃ v' vs, e = .returned v' ∧ Sl w' v' vs ∧ vs.length = 16 ∧ (∀ i u, vs[i]? = some u → Bs w' u (desK key i)) ∧ Keep w w' := by
  have TB := toBits_c v key w h (by omega)
  have hB : (toB key).length = 64 := by rw [toB_length, hl]
  have ED : Hid (∀ i, desK key i = chs (cdk ((chs (toB key) tC1).take 28) (i + 1) ++ cdk ((chs (toB key) tC1).drop 28) (i + 1)) tC2) := Hid.mk fun _ => rfl
  generalize toB key = bits at *
  have HB := Hid.mk hB
  clear hB h
  go_enter Try.func71, Try.ntmps71
  go_wp2_with fail
  refine TB.mono ?_
  rintro e w1 ⟨v1, rfl, o1, k1⟩
  clear TB
  go_wp2_with fail
  refine (tablePC1_c w1).mono ?_
  rintro e w2 ⟨v2, rfl, o2, k2⟩
  have CH := fun W (hk : Keep w2 W) => choose_c v1 v2 bits tC1 W ((o1.bs.keep k2).keep hk) (o2.sl.keep hk) (by rw [HB.out]; exact tC1_ok) (by decide)
  go_wp2_with fail
  refine (CH _ (Keep.refl _)).mono ?_
  rintro e w3 ⟨v3, rfl, o3, k3⟩
  clear CH o1 o2
  have hcl : (chs bits tC1).length = 56 := chs_length _ _
  generalize chs bits tC1 = cd at *
  have hcd := o3.bs
  obtain ⟨pa, pc, rfl, hpc, hpm, hca⟩ := hcd.form
  obtain ⟨bb, bo, rfl, -⟩ := hca 0 (by omega)
  clear hca
  unfold maxLen at hpm
  rw [hcl] at hcd hpc ⊢
  have p1 : (28 : Int) ≤ pc := by omega
  have p2 : (56 : Int) ≤ pc := by omega
  have p3 : ¬ pc = 28 := by omega
  have p4 : ¬ pc = 0 := by omega
  have K3 := (k1.trans k2).trans k3
  have hc0 := hcd.part (i := 0) (j := 28) (by omega) (by omega) (some ⟨bb, bo, none⟩) (fun _ => by simp [Addr.add])
  have hd0 := hcd.part (i := 28) (j := 56) (by omega) (by omega) (some ⟨bb, bo + 28, none⟩) (fun _ => by simp [Addr.add])
  rw [show cd.drop 0 = cd by simp, show 28 - 0 = 28 by omega] at hc0
  have ht56 : (cd.drop 28).take 28 = cd.drop 28 := List.take_of_length_le (by simp; omega)
  rw [show 56 - 28 = 28 by omega, ht56] at hd0
  have hl0 : (cd.take 28).length = 28 := by simp; omega
  have hl1 : (cd.drop 28).length = 28 := by simp; omega
  generalize cd.take 28 = c0 at *
  generalize cd.drop 28 = d0 at *
  have HL0 := Hid.mk hl0
  have HL1 := Hid.mk hl1
  clear hl0 hl1 ht56 o3 hcd hcl k1 k2 k3
  go_wp2_with fail
  go_quiet (fail)
  go_wp2_with fail
  go_loopw [4, 5, 6, 7] (fun cv dv ov i wr => ∃ (k n : Nat) (vs : List Value), n = k + 1 ∧ k ≤ 16 ∧ i = .int .i64 n ∧ vs.length = k ∧ Own w3.heap.size 27 wr ov vs ∧ Off wr ov cv (cdk c0 k) ∧ Off wr ov dv (cdk d0 k) ∧ (∀ i u, vs[i]? = some u → Off wr ov u (desK key i)) ∧ Keep w3 wr) (fun _ _ _ i _ => 17 - (intOf i).toNat)
  case atStart =>
    refine ⟨0, 1, [], rfl, by omega, rfl, rfl, Own.lit [] (by simp) (by simp), ?_, ?_, by simp, ((Keep.refl _).drewN _).alloc _⟩
    · exact ⟨(hc0.keep (((Keep.refl _).drewN nq).alloc _)), by rw [cdk, HL0.out]; omega, ⟨_, rfl⟩, hc0.block (by rw [HL0.out]; omega) (Nat.le_refl _)⟩
    · exact ⟨(hd0.keep (((Keep.refl _).drewN nq).alloc _)), by rw [cdk, HL1.out]; omega, ⟨_, rfl⟩, hd0.block (by rw [HL1.out]; omega) (Nat.le_refl _)⟩
  case round =>
    clear hc0 hd0 p1 p2 p3 p4 hpc hpm
    obtain ⟨k, n, vs, hn, hk, rfl, hvs, hown, hc, hd, hks, kw⟩ := hrel
    have HN := Hid.mk hn
    have HV := Hid.mk hvs
    have HKS := Hid.mk hks
    clear hks
    by_cases hlt : n ≤ 16
    · have hlt' : (n : Int) ≤ 16 := by omega
      have LS := fun W => leftShifts_c n W (by omega) hlt
      have hl2 := lsh_le n
      have EC : Hid (cdk c0 (k + 1) = shf (cdk c0 k) (lsh n)) := Hid.mk (by rw [hn]; rfl)
      have EDD : Hid (cdk d0 (k + 1) = shf (cdk d0 k) (lsh n)) := Hid.mk (by rw [hn]; rfl)
      have lc : Hid ((cdk c0 k).length = 28) := Hid.mk (by rw [cdk_length]; exact HL0.out)
      have ld : Hid ((cdk d0 k).length = 28) := Hid.mk (by rw [cdk_length]; exact HL1.out)
      obtain ⟨g, hg⟩ := hc.2.2.1
      have hgl := (hown.lt g hg).2
      have HG := Hid.mk hg
      generalize lsh n = ls at *
      generalize cdk c0 k = c at *
      generalize cdk d0 k = d at *
      clear hn hvs hg
      have SH := fun cv (W : World) (hb : Bs W cv c) => shifted_c cv c ls W hb hl2 (by rw [lc.out]; omega)
      have SD := fun dv (W : World) (hb : Bs W dv d) => shifted_c dv d ls W hb hl2 (by rw [ld.out]; omega)
      go_wp2_with fail
      refine (LS _).mono ?_
      rintro e y0 ⟨rfl, rfl⟩
      go_wp2_with fail
      refine (SH _ _ hc.bs).mono ?_
      rintro e y1 ⟨v5, rfl, o5, k5⟩
      go_wp2_with fail
      refine (LS _).mono ?_
      rintro e y2 ⟨rfl, rfl⟩
      go_wp2_with fail
      refine (SD _ _ (hd.bs.keep k5)).mono ?_
      rintro e y3 ⟨v6, rfl, o6, k6⟩
      have hc' : Off y3 _ v5 (shf c ls) := (Off.fresh o5 (by rw [shf_length, lc.out]; omega) HG.out hgl).keep k6
      have hd' : Off y3 _ v6 (shf d ls) := Off.fresh o6 (by rw [shf_length, ld.out]; omega) HG.out (Nat.lt_of_lt_of_le hgl k5.size)
      have K56 := k5.trans k6
      have HBL : Hid ((shf c ls ++ shf d ls).length = 56) := Hid.mk (by rw [List.length_append, shf_length, shf_length, lc.out, ld.out])
      rw [← EC.out] at hc' HBL
      rw [← EDD.out] at hd' HBL
      clear SH SD o5 o6 hc hd
      have BO := fun W (hk : Keep y3 W) => both_c v5 v6 _ _ W (hc'.bs.keep hk) (hd'.bs.keep hk) (by have := HBL.out; rw [List.length_append] at this; omega)
      go_wp2_with fail
      refine (BO _ (Keep.refl _)).mono ?_
      rintro e y4 ⟨v7, rfl, o7, k7⟩
      go_wp2_with fail
      refine (tablePC2_c _).mono ?_
      rintro e y5 ⟨v8, rfl, o8, k8⟩
      have CH := fun W (hk : Keep y5 W) => choose_c v7 v8 _ tC2 W ((o7.bs.keep k8).keep hk) (o8.sl.keep hk) (by rw [HBL.out]; exact tC2_ok) (by decide)
      go_wp2_with fail
      refine (CH _ (Keep.refl _)).mono ?_
      rintro e y6 ⟨v9, rfl, o9, k9⟩
      rw [← ED.out] at o9
      have K6 := (k7.trans k8).trans k9
      have hk' : Off y6 _ v9 (desK key k) := Off.fresh o9 (by rw [desK_length]; omega) HG.out (Nat.lt_of_lt_of_le hgl ((K56.trans (k7.trans k8)).size))
      have hown6 := hown.keep (K56.trans K6)
      have hc6 := hc'.keep K6
      have hd6 := hd'.keep K6
      have HKS6 : Hid (∀ i u, vs[i]? = some u → Off y6 _ u (desK key i)) := Hid.mk fun i u hu => (HKS.out i u hu).keep (K56.trans K6)
      have kw6 := kw.trans (K56.trans K6)
      clear CH o7 o8 o9 BO hown HKS hc' hd' kw
      obtain ⟨a9, c9, rfl, -⟩ := hk'.bs.form
      have hl9 : (desK key k).length = 48 := desK_length _ _
      rw [hl9] at hk' ⊢
      clear hl9
      go_wp2_with (at_builtin; refine wpList_app (by rfl) _ _ _ (by rfl) Try.underlying94 inf27 rfl w3.heap.size (hown6.alloc _) (Sl.one _) (by simp [Value.oneCell']) (by rfl) (by rfl) (by rw [HV.out]; simp [maxLen]; omega) (by rw [HV.out]; simp; omega) (by have := kw6.size; simp; omega) ?_; intro v' w' hown' hgr hob)
      have A1 := (hc6.keep ((Keep.refl _).alloc (.cells #[.slice a9 48 c9] 27))).app hgr hob
      have A2 := (hd6.keep ((Keep.refl _).alloc (.cells #[.slice a9 48 c9] 27))).app hgr hob
      have A3 := (hk'.keep ((Keep.refl _).alloc (.cells #[.slice a9 48 c9] 27))).app hgr hob
      have A4 : Hid (∀ i u, vs[i]? = some u → Off w' v' u (desK key i)) := Hid.mk fun i u hu => ((HKS6.out i u hu).keep ((Keep.refl _).alloc (.cells #[.slice a9 48 c9] 27))).app hgr hob
      go_roundw
      case rel =>
        refine ⟨k + 1, n + 1, vs ++ [.slice a9 48 c9], by have := HN.out; omega, by have := HN.out; omega, by go_num, by have := HV.out; simp; omega, hown', A1, A2, ?_, (kw6.alloc _).grown hgr (fun q hq => (hown6.lt q hq).1)⟩
        intro i u hu
        rw [List.getElem?_append] at hu
        split at hu
        · exact A4.out i u hu
        · rename_i hi
          have hik : i - vs.length = 0 := by
            rcases Nat.eq_zero_or_pos (i - vs.length) with h | h
            · exact h
            · rw [List.getElem?_eq_none (by simp only [List.length_cons, List.length_nil]; omega)] at hu; cases hu
          rw [hik] at hu
          simp at hu
          have : i = k := by have := HV.out; omega
          rw [this, ← hu]
          exact A3
      case measure => simp [intOf]; omega
    · have hlt' : ¬ (n : Int) ≤ 16 := by omega
      have hk16 : k = 16 := by omega
      have HK16 := Hid.mk hk16
      clear hk16 hn hvs
      go_wp2
      go_ret
      exact ⟨_, rfl, vs, hown.sl, by rw [HV.out]; exact HK16.out, fun i u hu => (HKS.out i u hu).bs, K3.trans kw⟩
end Go.Proofs.Qxb6500769a
