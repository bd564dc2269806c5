/- blastm: Pins. -/
import Derived.Test.Qxb6500772aNa
import Derived.Test.Qxb6500772aGa
import Derived.Test.Qxb6500772aRa
import Derived.Deep.LoopGhost
namespace Go.Proofs.Qxb6500772a
open Go Go.RowKit Go.Qm
set_option linter.unusedVariables false
set_option linter.unusedSimpArgs false
attribute [local go_sem ↓] Go.wp_at_zero Go.wp_at_succ
/-- The list of pins while it is made; two blocks that are read. -/
structure PI (w : World) (g1 gR : Nat) (p1 : List Value) (wr : World) (v : Value) (l : List PinV) : Prop where
  ow : OwnS pinVC 3 67 w.heap.size wr v l
  kp : Keep w wr
  a1 : Arr wr g1 33 p1
  aR : Arr wr gR 65 [.int .i64 0, .int .i64 1]
theorem PI.keep {w : World} {g1 gR : Nat} {p1 : List Value} {wr w' : World} {v : Value} {l : List PinV} (h : PI w g1 gR p1 wr v l) (k : Keep wr w') : PI w g1 gR p1 w' v l := ⟨h.ow.keep k, h.kp.trans k, h.a1.keep k, h.aR.keep k⟩
theorem PI.app {w : World} {g1 gR : Nat} {p1 : List Value} {wr w' : World} {v v' : Value} {l l' : List PinV} (h : PI w g1 gR p1 wr v l) (ho : OwnS pinVC 3 67 w.heap.size w' v' l') (hg : wr.grownBy w' v.ownBlock) : PI w g1 gR p1 w' v' l' := by
  have F : Fr (fun q => v.ownBlock = some q) wr w' := Fr.grown hg (fun k e => e)
  exact ⟨ho, h.kp.grown hg (fun q e => (h.ow.lt q e).1), F.arr (fun e => OwnS.neA h.ow h.a1 (by decide) e) h.a1, F.arr (fun e => OwnS.neA h.ow h.aR (by decide) e) h.aR⟩
theorem PI.app70 {w : World} {g1 gR g : Nat} {p1 cs : List Value} {wr w' : World} {v : Value} {l : List PinV} (h : PI w g1 gR p1 wr v l) (hg : wr.grownBy w' v.ownBlock) (a : Arr wr g 70 cs) : Arr w' g 70 cs :=
  (Fr.grown (P := fun q => v.ownBlock = some q) hg (fun k e => e)).arr (fun e => OwnS.neA h.ow a (by decide) e) a
set_option maxRecDepth 4000 in
set_option maxHeartbeats 4000000 in
theorem pinsM_c {P : Nat → Prop} {w : World} {cels : List Cel} {cv bv kv : Value} {f : EF} (hcl : cels.length ≤ 256) (hcw : ∀ c ∈ cels, 1 ≤ c.w ∧ c.w ≤ 64) (hc : CsW P w cv cels) (hbv : isSl bv) (hkv : isSl kv) :
    Calls Try.prog 16 #[prA cv bv f kv] w fun e w' => ∃ v, e = .returned v ∧ OwnS pinVC 3 67 w.heap.size w' v (pinAll (cwOf cels) (cnOf cels)) ∧ Keep w w' := by
  obtain ⟨pa, pc, rfl, pc1, pc2⟩ := hc.form
  obtain ⟨ba, bm, bc, rfl⟩ := hbv
  obtain ⟨ka, km, kc, rfl⟩ := hkv
  unfold maxLen at pc2
  simp only [prA]
  obtain ⟨W1, hW1⟩ : ∃ W1, W1 = w.alloc (.cells #[.slice pa cels.length pc, .slice ba bm bc, .int .i64 f.k, .int .i64 f.w, .int .i64 f.o, .int .u64 (f.v : Nat), .int .i64 f.c, .int .i64 f.l, .slice ka km kc] 33) := ⟨_, rfl⟩
  obtain ⟨W2, hW2⟩ : ∃ W2, W2 = W1.alloc (.cells #[] 67) := ⟨_, rfl⟩
  obtain ⟨W3, hW3⟩ : ∃ W3, W3 = W2.alloc (.cells #[.int .i64 0, .int .i64 1] 65) := ⟨_, rfl⟩
  have k1 : Keep w W1 := by rw [hW1]; exact (Keep.refl w).alloc _
  have k2 : Keep W1 W2 := by rw [hW2]; exact (Keep.refl W1).alloc _
  have k3 : Keep W2 W3 := by rw [hW3]; exact (Keep.refl W2).alloc _
  have z1 : W1.heap.size = w.heap.size + 1 := by rw [hW1]; simp
  have z2 : W2.heap.size = w.heap.size + 2 := by rw [hW2]; simp [z1]
  have b1 : Arr W1 w.heap.size 33 [.slice pa cels.length pc, .slice ba bm bc, .int .i64 f.k, .int .i64 f.w, .int .i64 f.o, .int .u64 (f.v : Nat), .int .i64 f.c, .int .i64 f.l, .slice ka km kc] := by rw [hW1]; exact Arr.new w 33 _
  have b3 : Arr W3 W2.heap.size 65 [.int .i64 0, .int .i64 1] := by rw [hW3]; exact Arr.new W2 65 _
  have o2 : OwnS pinVC 3 67 w.heap.size W2 (.slice (some ⟨W1.heap.size, 0, none⟩) 0 0) [] := by
    have h9 := OwnS.of (f := pinVC) (sz := 3) (e := 67) (B := w.heap.size) (w := W2) (l := []) (g := W1.heap.size) (cap := 0) (cur := []) pinVC_len (by omega) (by rw [hW2]; exact Arr.new W1 67 []) (by simp) (by simp [maxLen]) (by simp) (by simp)
    simpa using h9
  have HPI : Hid (PI w w.heap.size W2.heap.size [.slice pa cels.length pc, .slice ba bm bc, .int .i64 f.k, .int .i64 f.w, .int .i64 f.o, .int .u64 (f.v : Nat), .int .i64 f.c, .int .i64 f.l, .slice ka km kc] W3 (.slice (some ⟨W1.heap.size, 0, none⟩) 0 0) []) := Hid.mk ⟨o2.keep k3, (k1.trans k2).trans k3, (b1.keep k2).keep k3, b3⟩
  have HC := Hid.mk hc
  have HCW := Hid.mk hcw
  have HCL := Hid.mk hcl
  have HW64 : Hid ((∀ a ∈ cwOf cels, a ≤ 64) ∧ (∀ a ∈ cnOf cels, a ≤ 64)) := Hid.mk (by
    constructor
    · intro a ha
      obtain ⟨c, hc, rfl⟩ := List.mem_map.1 ha
      exact (hcw c hc).2
    · intro a ha
      obtain ⟨c, hc, rfl⟩ := List.mem_map.1 ha
      have := (hcw c hc).2
      split <;> omega)
  have HL0 : Hid ((pinL 0 (cwOf cels)).length ≤ 64 * 256 + 1) := Hid.mk (by
    rw [pinL_len]
    have h9 := offW_64 (cwOf cels) HW64.out.1 _ (Nat.le_refl _)
    rw [cwOf_len] at h9 ⊢
    omega)
  have li : (cels.length : Int) ≤ 256 := by omega
  clear k1 k2 k3 z1 z2 b1 b3 o2 hc hcw hcl
  go_enter Try.func16, Try.ntmps16
  go_upto_region 1 with fail
  rw [← hW1]
  clear hW1
  go_upto_region 2 with fail
  rw [← hW2]
  clear hW2
  go_upto_region 3 with fail
  rw [← hW3]
  clear hW3
  generalize W2.heap.size = gR at *
  generalize W1.heap.size = gE at *
  obtain ⟨g1, hg1⟩ : ∃ g1, g1 = w.heap.size := ⟨_, rfl⟩
  have HPI1 := HPI
  rw [← hg1] at HPI1 ⊢
  obtain ⟨p1, hp1⟩ : ∃ p1 : List Value, p1 = [.slice pa cels.length pc, .slice ba bm bc, .int .i64 f.k, .int .i64 f.w, .int .i64 f.o, .int .u64 (f.v : Nat), .int .i64 f.c, .int .i64 f.l, .slice ka km kc] := ⟨_, rfl⟩
  have HP0 : Hid (p1[0]? = some (.slice pa cels.length pc)) := Hid.mk (by rw [hp1]; rfl)
  have HPI2 : Hid (PI w g1 gR p1 W3 (.slice (some ⟨gE, 0, none⟩) 0 0) []) := Hid.mk (by have h9 := HPI.out; rw [← hg1, ← hp1] at h9; exact h9)
  clear hp1
  clear hg1 HPI HPI1
  go_loopg [3, 12] 2 (fun gk v3 v12 wr => ∃ (k : Nat) (v : Value), k + gk = 2 ∧ v12 = .int .i64 k ∧ v3 = v ∧ ((k = 0 ∧ PI w g1 gR p1 wr v []) ∨ (k = 1 ∧ PI w g1 gR p1 wr v (pinL 0 (cwOf cels))) ∨ (k = 2 ∧ PI w g1 gR p1 wr v (pinL 0 (cwOf cels) ++ pinL 1 (cnOf cels)))))
  case atStart => exact ⟨0, _, by omega, rfl, rfl, Or.inl ⟨rfl, HPI2.out⟩⟩
  case round =>
    obtain ⟨k, v, hk, rfl, rfl, hor⟩ := hrel
    have HKK := Hid.mk hk
    clear hk
    rcases hor with ⟨rfl, hpi⟩ | ⟨rfl, hpi⟩ | ⟨rfl, hpi⟩
    · skip
      have pi0 := hpi
      have HPI0 := Hid.mk pi0
      have q0 : wr.cell? ⟨g1, 0, none⟩ = some (.slice pa cels.length pc) := (hpi.a1.cell 0).trans HP0.out
      have qr : wr.cell? ⟨gR, 0, none⟩ = some (.int .i64 0) := hpi.aR.cell 0
      clear hpi pi0
      go_wp2_with fail
      clear q0 qr
      obtain ⟨ok, hok⟩ : ∃ ok, ok = gk := ⟨_, rfl⟩
      subst hok
      obtain ⟨wo, hwo⟩ : ∃ wo, wo = wr := ⟨_, rfl⟩
      subst hwo
      go_loopg [3, 19] cels.length (fun gk v3 v19 wr => ∃ (i : Nat) (v : Value), i + gk = cels.length ∧ v19 = .int .i64 i ∧ v3 = v ∧ PI w g1 gR p1 wr v (([] : List PinV) ++ pinK 0 (cwOf cels) i))
      case atStart => exact ⟨0, _, by omega, rfl, rfl, by simpa [pinK] using HPI0.out⟩
      case round =>
        obtain ⟨i, v2, hi, rfl, rfl, hpi⟩ := hrel
        have HI := Hid.mk hi
        have HPI := Hid.mk hpi
        clear hi
        by_cases hlt : i < cels.length
        · have j1 : (i : Int) < cels.length := by omega
          have j2 : (0 : Int) ≤ i := by omega
          obtain ⟨cb, co, hca, hcel⟩ := (HC.out.step (KP.of hpi.kp)).cell hlt
          subst hca
          have c0 := hcel 0 (by decide)
          have c1 := hcel 1 (by decide)
          have c2 := hcel 2 (by decide)
          have c3 := hcel 3 (by decide)
          have c4 := hcel 4 (by decide)
          simp only [celC, List.getElem?_cons_zero, List.getElem?_cons_succ, Nat.add_zero] at c0 c1 c2 c3 c4
          have hwk := HCW.out _ (List.getElem_mem hlt)
          have HM : Hid (((cwOf cels).getD i 0).toNat = cels[i].w.toNat) := Hid.mk (by simp [cwOf, List.getD_eq_getElem?_getD, List.getElem?_map, List.getElem?_eq_getElem hlt])
          have HPK : Hid (pinK 0 (cwOf cels) (i + 1) = pinK 0 (cwOf cels) i ++ pinC 0 i ((cwOf cels).getD i 0).toNat) := Hid.mk (pinK_succ _ _ _)
          have HLK : Hid ((pinK 0 (cwOf cels) i).length ≤ 64 * 256) := Hid.mk (by
            rw [pinK_len _ _ _ (by rw [cwOf_len]; omega)]
            have h9 := offW_64 (cwOf cels) HW64.out.1 i (by rw [cwOf_len]; omega)
            have := HCL.out
            omega)
          generalize cels[i] = x at *
          obtain ⟨D, hD⟩ : ∃ D : Nat, x.w = D := ⟨x.w.toNat, by omega⟩
          have hD2 : 1 ≤ D ∧ D ≤ 64 := by omega
          rw [hD] at c0 HM
          simp only [Int.toNat_natCast] at HM
          obtain ⟨Z, hZ⟩ : ∃ Z, Z = wr.alloc (.cells #[.int .i64 (D : Nat), .bool x.inp, .int .u64 (x.ini : Nat), .int .i64 x.lo, .int .i64 x.hi] 70) := ⟨_, rfl⟩
          have kZ : Keep wr Z := by rw [hZ]; exact (Keep.refl wr).alloc _
          have aZ : Arr Z wr.heap.size 70 [.int .i64 (D : Nat), .bool x.inp, .int .u64 (x.ini : Nat), .int .i64 x.lo, .int .i64 x.hi] := by rw [hZ]; exact Arr.new wr 70 _
          have HAZ := Hid.mk aZ
          have HPZ := Hid.mk (hpi.keep kZ)
          have HD2 := Hid.mk hD2
          clear hcel hD hwk kZ aZ hpi hD2
          go_upto_region 8 with fail
          rw [← hZ]
          generalize wr.heap.size = gZ at *
          clear hZ c0 c1 c2 c3 c4
          go_wp2_with fail
          obtain ⟨ok2, hok2⟩ : ∃ ok2, ok2 = gk := ⟨_, rfl⟩
          subst hok2
          obtain ⟨wo2, hwo2⟩ : ∃ wo2, wo2 = wr := ⟨_, rfl⟩
          subst hwo2
          generalize hm : ((cwOf cels).getD i 0).toNat = m at *
          have HMM := Hid.mk hm
          clear hm
          go_loopg [3, 8] m (fun gk v3 v8 wr => ∃ (b : Nat) (v : Value), b + gk = m ∧ v8 = .int .i64 b ∧ v3 = v ∧ PI w g1 gR p1 wr v (([] : List PinV) ++ pinK 0 (cwOf cels) i ++ pinC 0 i b) ∧ Arr wr gZ 70 [.int .i64 (D : Nat), .bool x.inp, .int .u64 (x.ini : Nat), .int .i64 x.lo, .int .i64 x.hi])
          case atStart => exact ⟨0, _, by omega, rfl, rfl, by simpa [pinC] using HPZ.out, HAZ.out⟩
          case round =>
            obtain ⟨b, v3, hb, rfl, rfl, hpi, az⟩ := hrel
            have HB := Hid.mk hb
            have HPI3 := Hid.mk hpi
            have HAZ3 := Hid.mk az
            have z0 : wr.cell? ⟨gZ, 0, none⟩ = some (.int .i64 (D : Nat)) := az.cell 0
            have z1 : wr.cell? ⟨gZ, 1, none⟩ = some (.bool x.inp) := az.cell 1
            clear hb az
            by_cases hblt : b < m
            · have l1 : (b : Int) < D := by have := HM.out; omega
              have HLP : Hid ((([] : List PinV) ++ pinK 0 (cwOf cels) i ++ pinC 0 i b).length ≤ 200000) := Hid.mk (by rw [List.length_append, List.length_append, pinC_len]; have := HLK.out; have := HD2.out; have : ([] : List PinV).length = 0 := rfl; omega)
              have hbd : w.heap.size ≤ wr.heap.size := hpi.kp.size
              obtain ⟨va0, vm0, vc0, hv0⟩ := OwnS.isl hpi.ow
              subst hv0
              have hb64 : (b : Int) ≤ 64 := by have := HD2.out; omega
              clear hpi
              go_wp2_with (at_builtin; refine wpList_appS (by rfl) _ _ _ (by rfl) pinVC Try.underlying50 inf67 rfl (by omega) pinVC_len w.heap.size (by rfl) (HPI3.out.ow.alloc _) _ (0, (i : Int), b) (by rfl) (Arr.new wr 67 (pinVC (0, (i : Int), b))) (pinVC_one _) (by have := HLP.out; simp only [maxLen]; omega) (by have := HLP.out; omega) (by simp; omega) ?_; intro v' w6 hown' hgr hob; have HO6 := Hid.mk hown'; have HG6 := Hid.mk hgr; clear hown' hgr hob)
              have HN6 : Hid (PI w g1 gR p1 w6 v' (([] : List PinV) ++ pinK 0 (cwOf cels) i ++ pinC 0 i (b + 1)) ∧ Arr w6 gZ 70 [.int .i64 (D : Nat), .bool x.inp, .int .u64 (x.ini : Nat), .int .i64 x.lo, .int .i64 x.hi]) := Hid.mk (by
                have p6 := HPI3.out.keep ((Keep.refl wr).alloc (.cells (pinVC (0, (i : Int), b)).toArray 67))
                refine ⟨?_, p6.app70 HG6.out (HAZ3.out.keep ((Keep.refl wr).alloc _))⟩
                rw [pinC_succ, ← List.append_assoc]
                exact p6.app HO6.out HG6.out)
              go_roundg (gk - 1)
              case measure => have := HB.out; omega
              case rel => exact ⟨b + 1, _, by have := HB.out; omega, by go_num, rfl, HN6.out.1, HN6.out.2⟩
            · have HBM : Hid (b = m) := Hid.mk (by have := HB.out; omega)
              have l1 : ¬ (b : Int) < D := by have := HM.out; have := HBM.out; omega
              clear hpi
              go_wp2_with fail
              go_roundg (ok2 - 1)
              case measure => have := HI.out; omega
              case rel => exact ⟨i + 1, _, by have := HI.out; omega, by go_num, rfl, by have hbm := HBM.out; rw [HPK.out, ← List.append_assoc, ← hbm]; exact HPI3.out⟩
        · have j1 : ¬ (i : Int) < cels.length := by omega
          obtain rfl : i = cels.length := by have := HI.out; omega
          have HLP : Hid ((([] : List PinV) ++ pinK 0 (cwOf cels) cels.length).length ≤ 200000) := Hid.mk (by
            rw [List.length_append, pinK_len _ _ _ (by rw [cwOf_len]; omega)]
            have h9 := offW_64 (cwOf cels) HW64.out.1 cels.length (by rw [cwOf_len]; omega)
            have := HCL.out
            have : ([] : List PinV).length = 0 := rfl
            omega)
          have hbd : w.heap.size ≤ wr.heap.size := hpi.kp.size
          obtain ⟨va0, vm0, vc0, hv0⟩ := OwnS.isl hpi.ow
          subst hv0
          clear hpi
          go_wp2_with (at_builtin; refine wpList_appS (by rfl) _ _ _ (by rfl) pinVC Try.underlying50 inf67 rfl (by omega) pinVC_len w.heap.size (by rfl) (HPI.out.ow.alloc _) _ (0, -1, 0) (by rfl) (Arr.new wr 67 (pinVC (0, -1, 0))) (pinVC_one _) (by have := HLP.out; simp only [maxLen]; omega) (by have := HLP.out; omega) (by simp; omega) ?_; intro v' w6 hown' hgr hob; have HO6 := Hid.mk hown'; have HG6 := Hid.mk hgr; clear hown' hgr hob)
          have HN6 : Hid (PI w g1 gR p1 w6 v' (([] : List PinV) ++ pinL 0 (cwOf cels))) := Hid.mk (by
            have p6 := (HPI.out.keep ((Keep.refl wr).alloc (.cells (pinVC (0, -1, 0)).toArray 67))).app HO6.out HG6.out
            show PI w g1 gR p1 w6 v' (([] : List PinV) ++ (pinK 0 (cwOf cels) (cwOf cels).length ++ [(0, -1, 0)]))
            rw [cwOf_len, ← List.append_assoc]
            exact p6)
          go_roundg (ok - 1)
          case measure => have := HKK.out; omega
          case rel => exact ⟨0 + 1, _, by have := HKK.out; omega, by go_num, rfl, by exact Or.inr (Or.inl ⟨rfl, by simpa using HN6.out⟩)⟩
    · skip
      have pi0 := hpi
      have HPI0 := Hid.mk pi0
      have q0 : wr.cell? ⟨g1, 0, none⟩ = some (.slice pa cels.length pc) := (hpi.a1.cell 0).trans HP0.out
      have qr : wr.cell? ⟨gR, 1, none⟩ = some (.int .i64 1) := hpi.aR.cell 1
      clear hpi pi0
      go_wp2_with fail
      clear q0 qr
      obtain ⟨ok, hok⟩ : ∃ ok, ok = gk := ⟨_, rfl⟩
      subst hok
      obtain ⟨wo, hwo⟩ : ∃ wo, wo = wr := ⟨_, rfl⟩
      subst hwo
      go_loopg [3, 19] cels.length (fun gk v3 v19 wr => ∃ (i : Nat) (v : Value), i + gk = cels.length ∧ v19 = .int .i64 i ∧ v3 = v ∧ PI w g1 gR p1 wr v (pinL 0 (cwOf cels) ++ pinK 1 (cnOf cels) i))
      case atStart => exact ⟨0, _, by omega, rfl, rfl, by simpa [pinK] using HPI0.out⟩
      case round =>
        obtain ⟨i, v2, hi, rfl, rfl, hpi⟩ := hrel
        have HI := Hid.mk hi
        have HPI := Hid.mk hpi
        clear hi
        by_cases hlt : i < cels.length
        · have j1 : (i : Int) < cels.length := by omega
          have j2 : (0 : Int) ≤ i := by omega
          obtain ⟨cb, co, hca, hcel⟩ := (HC.out.step (KP.of hpi.kp)).cell hlt
          subst hca
          have c0 := hcel 0 (by decide)
          have c1 := hcel 1 (by decide)
          have c2 := hcel 2 (by decide)
          have c3 := hcel 3 (by decide)
          have c4 := hcel 4 (by decide)
          simp only [celC, List.getElem?_cons_zero, List.getElem?_cons_succ, Nat.add_zero] at c0 c1 c2 c3 c4
          have hwk := HCW.out _ (List.getElem_mem hlt)
          have HM : Hid (((cnOf cels).getD i 0).toNat = if cels[i].inp = true then 0 else cels[i].w.toNat) := Hid.mk (by rw [cnOf_at hlt, inpA_get hlt]; split <;> simp [cwOf, List.getD_eq_getElem?_getD, List.getElem?_map, List.getElem?_eq_getElem hlt])
          have HPK : Hid (pinK 1 (cnOf cels) (i + 1) = pinK 1 (cnOf cels) i ++ pinC 1 i ((cnOf cels).getD i 0).toNat) := Hid.mk (pinK_succ _ _ _)
          have HLK : Hid ((pinK 1 (cnOf cels) i).length ≤ 64 * 256) := Hid.mk (by
            rw [pinK_len _ _ _ (by rw [cnOf_len]; omega)]
            have h9 := offW_64 (cnOf cels) HW64.out.2 i (by rw [cnOf_len]; omega)
            have := HCL.out
            omega)
          generalize cels[i] = x at *
          obtain ⟨D, hD⟩ : ∃ D : Nat, x.w = D := ⟨x.w.toNat, by omega⟩
          have hD2 : 1 ≤ D ∧ D ≤ 64 := by omega
          rw [hD] at c0 HM
          simp only [Int.toNat_natCast] at HM
          obtain ⟨Z, hZ⟩ : ∃ Z, Z = wr.alloc (.cells #[.int .i64 (D : Nat), .bool x.inp, .int .u64 (x.ini : Nat), .int .i64 x.lo, .int .i64 x.hi] 70) := ⟨_, rfl⟩
          have kZ : Keep wr Z := by rw [hZ]; exact (Keep.refl wr).alloc _
          have aZ : Arr Z wr.heap.size 70 [.int .i64 (D : Nat), .bool x.inp, .int .u64 (x.ini : Nat), .int .i64 x.lo, .int .i64 x.hi] := by rw [hZ]; exact Arr.new wr 70 _
          have HAZ := Hid.mk aZ
          have HPZ := Hid.mk (hpi.keep kZ)
          have HD2 := Hid.mk hD2
          clear hcel hD hwk kZ aZ hpi hD2
          go_upto_region 8 with fail
          rw [← hZ]
          generalize wr.heap.size = gZ at *
          clear hZ c0 c1 c2 c3 c4
          go_wp2_with fail
          obtain ⟨ok2, hok2⟩ : ∃ ok2, ok2 = gk := ⟨_, rfl⟩
          subst hok2
          obtain ⟨wo2, hwo2⟩ : ∃ wo2, wo2 = wr := ⟨_, rfl⟩
          subst hwo2
          generalize hm : ((cnOf cels).getD i 0).toNat = m at *
          have HMM := Hid.mk hm
          clear hm
          go_loopg [3, 8] m (fun gk v3 v8 wr => ∃ (b : Nat) (v : Value), b + gk = m ∧ v8 = .int .i64 b ∧ v3 = v ∧ PI w g1 gR p1 wr v (pinL 0 (cwOf cels) ++ pinK 1 (cnOf cels) i ++ pinC 1 i b) ∧ Arr wr gZ 70 [.int .i64 (D : Nat), .bool x.inp, .int .u64 (x.ini : Nat), .int .i64 x.lo, .int .i64 x.hi])
          case atStart => exact ⟨0, _, by omega, rfl, rfl, by simpa [pinC] using HPZ.out, HAZ.out⟩
          case round =>
            obtain ⟨b, v3, hb, rfl, rfl, hpi, az⟩ := hrel
            have HB := Hid.mk hb
            have HPI3 := Hid.mk hpi
            have HAZ3 := Hid.mk az
            have z0 : wr.cell? ⟨gZ, 0, none⟩ = some (.int .i64 (D : Nat)) := az.cell 0
            have z1 : wr.cell? ⟨gZ, 1, none⟩ = some (.bool x.inp) := az.cell 1
            clear hb az
            by_cases hblt : b < m
            · have hin : x.inp = false := by
                rcases Bool.eq_false_or_eq_true x.inp with e | e
                · have := HM.out; rw [e] at this; simp at this; omega
                · exact e
              have l1 : (b : Int) < D := by have := HM.out; rw [hin] at this; simp at this; omega
              rw [hin] at z1
              clear hin
              have HLP : Hid ((pinL 0 (cwOf cels) ++ pinK 1 (cnOf cels) i ++ pinC 1 i b).length ≤ 200000) := Hid.mk (by rw [List.length_append, List.length_append, pinC_len]; have := HLK.out; have := HD2.out; have := HL0.out; omega)
              have hbd : w.heap.size ≤ wr.heap.size := hpi.kp.size
              obtain ⟨va0, vm0, vc0, hv0⟩ := OwnS.isl hpi.ow
              subst hv0
              have hb64 : (b : Int) ≤ 64 := by have := HD2.out; omega
              clear hpi
              go_wp2_with (at_builtin; refine wpList_appS (by rfl) _ _ _ (by rfl) pinVC Try.underlying50 inf67 rfl (by omega) pinVC_len w.heap.size (by rfl) (HPI3.out.ow.alloc _) _ (1, (i : Int), b) (by rfl) (Arr.new wr 67 (pinVC (1, (i : Int), b))) (pinVC_one _) (by have := HLP.out; simp only [maxLen]; omega) (by have := HLP.out; omega) (by simp; omega) ?_; intro v' w6 hown' hgr hob; have HO6 := Hid.mk hown'; have HG6 := Hid.mk hgr; clear hown' hgr hob)
              have HN6 : Hid (PI w g1 gR p1 w6 v' (pinL 0 (cwOf cels) ++ pinK 1 (cnOf cels) i ++ pinC 1 i (b + 1)) ∧ Arr w6 gZ 70 [.int .i64 (D : Nat), .bool x.inp, .int .u64 (x.ini : Nat), .int .i64 x.lo, .int .i64 x.hi]) := Hid.mk (by
                have p6 := HPI3.out.keep ((Keep.refl wr).alloc (.cells (pinVC (1, (i : Int), b)).toArray 67))
                refine ⟨?_, p6.app70 HG6.out (HAZ3.out.keep ((Keep.refl wr).alloc _))⟩
                rw [pinC_succ, ← List.append_assoc]
                exact p6.app HO6.out HG6.out)
              go_roundg (gk - 1)
              case measure => have := HB.out; omega
              case rel => exact ⟨b + 1, _, by have := HB.out; omega, by go_num, rfl, HN6.out.1, HN6.out.2⟩
            · have HBM : Hid (b = m) := Hid.mk (by have := HB.out; omega)
              rcases Bool.eq_false_or_eq_true x.inp with hin | hin
              · have l1 : (b : Int) < D := by have := HM.out; rw [hin] at this; simp at this; have := HBM.out; have := HD2.out; omega
                rw [hin] at z1
                clear hin
                clear hpi
                go_wp2_with fail
                go_roundg (ok2 - 1)
                case measure => have := HI.out; omega
                case rel => exact ⟨i + 1, _, by have := HI.out; omega, by go_num, rfl, by have hbm := HBM.out; rw [HPK.out, ← List.append_assoc, ← hbm]; exact HPI3.out⟩
              · have l1 : ¬ (b : Int) < D := by have := HM.out; rw [hin] at this; simp at this; have := HBM.out; omega
                clear hin
                clear hpi
                go_wp2_with fail
                go_roundg (ok2 - 1)
                case measure => have := HI.out; omega
                case rel => exact ⟨i + 1, _, by have := HI.out; omega, by go_num, rfl, by have hbm := HBM.out; rw [HPK.out, ← List.append_assoc, ← hbm]; exact HPI3.out⟩
        · have j1 : ¬ (i : Int) < cels.length := by omega
          obtain rfl : i = cels.length := by have := HI.out; omega
          have HLP : Hid ((pinL 0 (cwOf cels) ++ pinK 1 (cnOf cels) cels.length).length ≤ 200000) := Hid.mk (by
            rw [List.length_append, pinK_len _ _ _ (by rw [cnOf_len]; omega)]
            have h9 := offW_64 (cnOf cels) HW64.out.2 cels.length (by rw [cnOf_len]; omega)
            have := HCL.out
            have := HL0.out
            omega)
          have hbd : w.heap.size ≤ wr.heap.size := hpi.kp.size
          obtain ⟨va0, vm0, vc0, hv0⟩ := OwnS.isl hpi.ow
          subst hv0
          clear hpi
          go_wp2_with (at_builtin; refine wpList_appS (by rfl) _ _ _ (by rfl) pinVC Try.underlying50 inf67 rfl (by omega) pinVC_len w.heap.size (by rfl) (HPI.out.ow.alloc _) _ (1, -1, 0) (by rfl) (Arr.new wr 67 (pinVC (1, -1, 0))) (pinVC_one _) (by have := HLP.out; simp only [maxLen]; omega) (by have := HLP.out; omega) (by simp; omega) ?_; intro v' w6 hown' hgr hob; have HO6 := Hid.mk hown'; have HG6 := Hid.mk hgr; clear hown' hgr hob)
          have HN6 : Hid (PI w g1 gR p1 w6 v' (pinL 0 (cwOf cels) ++ pinL 1 (cnOf cels))) := Hid.mk (by
            have p6 := (HPI.out.keep ((Keep.refl wr).alloc (.cells (pinVC (1, -1, 0)).toArray 67))).app HO6.out HG6.out
            show PI w g1 gR p1 w6 v' (pinL 0 (cwOf cels) ++ (pinK 1 (cnOf cels) (cnOf cels).length ++ [(1, -1, 0)]))
            rw [cnOf_len, ← List.append_assoc]
            exact p6)
          go_roundg (ok - 1)
          case measure => have := HKK.out; omega
          case rel => exact ⟨1 + 1, _, by have := HKK.out; omega, by go_num, rfl, by exact Or.inr (Or.inr ⟨rfl, HN6.out⟩)⟩
    · have HPI9 := Hid.mk hpi
      clear hpi
      go_wp2_with fail
      go_ret
      exact ⟨_, rfl, HPI9.out.ow, HPI9.out.kp⟩
end Go.Proofs.Qxb6500772a
