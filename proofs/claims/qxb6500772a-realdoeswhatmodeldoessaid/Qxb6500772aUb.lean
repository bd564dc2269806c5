/- interpm: Eval, leaves. -/
import Derived.Test.Qxb6500772aUa
import Derived.Test.Qxb6500772aTe
import Derived.Test.Qxb6500772aCj
import Derived.Deep.RegionHeld3
namespace Go.Proofs.Qxb6500772a
open Go.RowKit Go.Qm
set_option linter.unusedVariables false
set_option linter.unusedSimpArgs false
attribute [local go_sem ↓] Go.wp_at_zero Go.wp_at_succ
theorem wtL_mm {ws : List Int} : ∀ {t : EL}, wtL ws t → ∀ x ∈ t.toL, wtL ws x.2 ∧ wtOne ws x.1 x.2.ws
  | .nil, _, x, hx => by simp [EL.toL] at hx
  | .cons f k r, h, x, hx => by
    simp only [EL.toL, List.mem_cons] at hx
    rcases hx with rfl | hx
    · exact ⟨h.1, h.2.1⟩
    · exact wtL_mm h.2.2 x hx
set_option maxRecDepth 6000 in
set_option maxHeartbeats 8000000 in
theorem ev_k0 {P : Nat → Prop} {ws : List Int} {f : EF} {t : EL} (IH : ∀ x ∈ t.toL, EvC P ws x.1 x.2) (hk : f.k = 0) : EvC P ws f t := by
  intro w v rows sv S hf hr he hwt hwo hsv hS
  obtain ⟨va, vc, hvv, vv1, vv2⟩ := hr.form
  obtain ⟨sa, sc, hsvv, sv1, sv2⟩ := hsv.form
  subst hvv hsvv
  unfold maxLen at vv2 sv2
  obtain ⟨W, hW⟩ : ∃ W, W = (w.alloc (.cells #[.int .i64 f.k, .int .i64 f.w, .int .i64 f.o, .int .u64 (f.v : Nat), .int .i64 f.c, .int .i64 f.l, .slice va rows.length vc] 31)).alloc (.cells #[.slice sa S.cells.length sc, .bool S.fault] 37) := ⟨_, rfl⟩
  have kW : Keep w W := by rw [hW]; exact ((Keep.refl w).alloc _).alloc _
  have aE : Arr W w.heap.size 31 (EfC f (.slice va rows.length vc)) := by rw [hW]; exact (Arr.new w 31 _).keep ((Keep.refl _).alloc _)
  have aS : Arr W (w.heap.size + 1) 37 [.slice sa S.cells.length sc, .bool S.fault] := by
    rw [hW]
    have := Arr.new (w.alloc (.cells #[.int .i64 f.k, .int .i64 f.w, .int .i64 f.o, .int .u64 (f.v : Nat), .int .i64 f.c, .int .i64 f.l, .slice va rows.length vc] 31)) 37 [.slice sa S.cells.length sc, .bool S.fault]
    have e : (w.alloc (.cells #[.int .i64 f.k, .int .i64 f.w, .int .i64 f.o, .int .u64 (f.v : Nat), .int .i64 f.c, .int .i64 f.l, .slice va rows.length vc] 31)).heap.size = w.heap.size + 1 := by simp
    rw [e] at this
    exact this
  have HKW := Hid.mk kW
  have HAE := Hid.mk aE
  have HAS := Hid.mk aS
  have HSV := Hid.mk hsv
  obtain ⟨e0, e1, e2, e3, e4, e5, e6⟩ := efC_cells aE
  have s0 : W.cell? ⟨w.heap.size + 1, 0, none⟩ = some (.slice sa S.cells.length sc) := aS.cell 0
  have s1 : W.cell? ⟨w.heap.size + 1, 1, none⟩ = some (.bool S.fault) := aS.cell 1
  simp only [efA] at *
  have HR : Hid (evOne f (evL t S) t.ws S = (f.v, false)) := Hid.mk (by simp [evOne, hk])
  generalize evOne f (evL t S) t.ws S = res at *
  obtain ⟨res1, res2⟩ := res
  simp only [Prod.mk.injEq] at HR
  obtain ⟨rfl, rfl⟩ := HR.out
  rw [hk] at e0
  clear hf hr he hwt hwo hsv hS kW aE aS IH hk
  go_enter Try.func36, Try.ntmps36
  go_upto_region 1 with fail
  rw [← hW]
  generalize w.heap.size + 1 = gS at *
  generalize w.heap.size = gE at *
  clear hW
  go_wp2_with fail
  go_ret2
  exact ⟨rfl, HKW.out⟩
set_option maxRecDepth 6000 in
set_option maxHeartbeats 8000000 in
theorem ev_k1 {P : Nat → Prop} {ws : List Int} {f : EF} {t : EL} (IH : ∀ x ∈ t.toL, EvC P ws x.1 x.2) (hk : f.k = 1) : EvC P ws f t := by
  intro w v rows sv S hf hr he hwt hwo hsv hS
  have hcell : wtCells ws f.c 1 f.w := by
    obtain ⟨-, h⟩ := hwo
    rw [hk] at h
    rcases h with ⟨a, -⟩ | ⟨-, -, h⟩ | ⟨a, -⟩ | ⟨a, -⟩ | ⟨a, -⟩ | ⟨a, -⟩ | ⟨a, -⟩
    · exact absurd a (by decide)
    · exact h
    all_goals exact absurd a (by decide)
  obtain ⟨c0, c1, c2, -⟩ := hcell
  have hlen := hS.1
  obtain ⟨C, hC⟩ : ∃ C : Nat, f.c = C := ⟨f.c.toNat, by omega⟩
  have hCl : C < S.cells.length := by omega
  obtain ⟨va, vc, hvv, vv1, vv2⟩ := hr.form
  obtain ⟨sa, sc, hsvv, sv1, sv2⟩ := hsv.form
  subst hvv hsvv
  unfold maxLen at vv2 sv2
  obtain ⟨W, hW⟩ : ∃ W, W = (w.alloc (.cells #[.int .i64 f.k, .int .i64 f.w, .int .i64 f.o, .int .u64 (f.v : Nat), .int .i64 f.c, .int .i64 f.l, .slice va rows.length vc] 31)).alloc (.cells #[.slice sa S.cells.length sc, .bool S.fault] 37) := ⟨_, rfl⟩
  have kW : Keep w W := by rw [hW]; exact ((Keep.refl w).alloc _).alloc _
  have aE : Arr W w.heap.size 31 (EfC f (.slice va rows.length vc)) := by rw [hW]; exact (Arr.new w 31 _).keep ((Keep.refl _).alloc _)
  have aS : Arr W (w.heap.size + 1) 37 [.slice sa S.cells.length sc, .bool S.fault] := by
    rw [hW]
    have := Arr.new (w.alloc (.cells #[.int .i64 f.k, .int .i64 f.w, .int .i64 f.o, .int .u64 (f.v : Nat), .int .i64 f.c, .int .i64 f.l, .slice va rows.length vc] 31)) 37 [.slice sa S.cells.length sc, .bool S.fault]
    have e : (w.alloc (.cells #[.int .i64 f.k, .int .i64 f.w, .int .i64 f.o, .int .u64 (f.v : Nat), .int .i64 f.c, .int .i64 f.l, .slice va rows.length vc] 31)).heap.size = w.heap.size + 1 := by simp
    rw [e] at this
    exact this
  have HKW := Hid.mk kW
  have HAE := Hid.mk aE
  have HAS := Hid.mk aS
  have HSV := Hid.mk hsv
  obtain ⟨e0, e1, e2, e3, e4, e5, e6⟩ := efC_cells aE
  have s0 : W.cell? ⟨w.heap.size + 1, 0, none⟩ = some (.slice sa S.cells.length sc) := aS.cell 0
  have s1 : W.cell? ⟨w.heap.size + 1, 1, none⟩ = some (.bool S.fault) := aS.cell 1
  simp only [efA] at *
  obtain ⟨b, o, hsa, hcc⟩ := (show Vs W _ _ from hsv.keep kW).cell hCl
  subst hsa
  have HR : Hid (evOne f (evL t S) t.ws S = (S.cells[C], false)) := Hid.mk (by simp [evOne, hk, hC, List.getD_eq_getElem?_getD, hCl])
  generalize evOne f (evL t S) t.ws S = res at *
  obtain ⟨res1, res2⟩ := res
  simp only [Prod.mk.injEq] at HR
  obtain ⟨h1, rfl⟩ := HR.out
  rw [← h1] at hcc
  rw [hk] at e0
  rw [hC] at e4
  have m1 : (C : Int) < S.cells.length := by omega
  have m2 : (0 : Int) ≤ C := by omega
  clear hf hr he hwt hwo hsv hS kW aE aS IH hk h1 HR hlen c0 c1 c2 hC
  go_enter Try.func36, Try.ntmps36
  go_upto_region 1 with fail
  rw [← hW]
  generalize w.heap.size + 1 = gS at *
  generalize w.heap.size = gE at *
  clear hW
  go_wp2_with fail
  go_ret2
  exact ⟨rfl, HKW.out⟩
set_option maxRecDepth 6000 in
set_option maxHeartbeats 8000000 in
theorem ev_k2 {P : Nat → Prop} {ws : List Int} {f : EF} {t : EL} (IH : ∀ x ∈ t.toL, EvC P ws x.1 x.2) (hk : f.k = 2) : EvC P ws f t := by
  intro w v rows sv S hf hr he hwt hwo hsv hS
  obtain ⟨va, vc, hvv, vv1, vv2⟩ := hr.form
  obtain ⟨sa, sc, hsvv, sv1, sv2⟩ := hsv.form
  subst hvv hsvv
  unfold maxLen at vv2 sv2
  obtain ⟨W, hW⟩ : ∃ W, W = (w.alloc (.cells #[.int .i64 f.k, .int .i64 f.w, .int .i64 f.o, .int .u64 (f.v : Nat), .int .i64 f.c, .int .i64 f.l, .slice va rows.length vc] 31)).alloc (.cells #[.slice sa S.cells.length sc, .bool S.fault] 37) := ⟨_, rfl⟩
  have kW : Keep w W := by rw [hW]; exact ((Keep.refl w).alloc _).alloc _
  have aE : Arr W w.heap.size 31 (EfC f (.slice va rows.length vc)) := by rw [hW]; exact (Arr.new w 31 _).keep ((Keep.refl _).alloc _)
  have aS : Arr W (w.heap.size + 1) 37 [.slice sa S.cells.length sc, .bool S.fault] := by
    rw [hW]
    have := Arr.new (w.alloc (.cells #[.int .i64 f.k, .int .i64 f.w, .int .i64 f.o, .int .u64 (f.v : Nat), .int .i64 f.c, .int .i64 f.l, .slice va rows.length vc] 31)) 37 [.slice sa S.cells.length sc, .bool S.fault]
    have e : (w.alloc (.cells #[.int .i64 f.k, .int .i64 f.w, .int .i64 f.o, .int .u64 (f.v : Nat), .int .i64 f.c, .int .i64 f.l, .slice va rows.length vc] 31)).heap.size = w.heap.size + 1 := by simp
    rw [e] at this
    exact this
  have HKW := Hid.mk kW
  have HAE := Hid.mk aE
  have HAS := Hid.mk aS
  have HSV := Hid.mk hsv
  obtain ⟨e0, e1, e2, e3, e4, e5, e6⟩ := efC_cells aE
  have s0 : W.cell? ⟨w.heap.size + 1, 0, none⟩ = some (.slice sa S.cells.length sc) := aS.cell 0
  have s1 : W.cell? ⟨w.heap.size + 1, 1, none⟩ = some (.bool S.fault) := aS.cell 1
  simp only [efA] at *
  have HR : Hid (evOne f (evL t S) t.ws S = (S.fault.toNat, false)) := Hid.mk (by simp [evOne, hk])
  generalize evOne f (evL t S) t.ws S = res at *
  obtain ⟨res1, res2⟩ := res
  simp only [Prod.mk.injEq] at HR
  obtain ⟨rfl, rfl⟩ := HR.out
  rw [hk] at e0
  have TC := truth_c S.fault
  generalize S.fault = sf at *
  clear hf hr he hwt hwo hsv hS kW aE aS IH hk
  go_enter Try.func36, Try.ntmps36
  go_upto_region 1 with fail
  rw [← hW]
  generalize w.heap.size + 1 = gS at *
  generalize w.heap.size = gE at *
  clear hW
  go_wp2_with fail
  refine (TC _).mono ?_
  rintro e y ⟨rfl, hy⟩
  subst hy
  go_wp2_with fail
  go_ret2
  exact ⟨rfl, HKW.out⟩
end Go.Proofs.Qxb6500772a
