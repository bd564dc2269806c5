/- circuitm: add. -/
import Derived.Test.Qxb6500772aCa
import Derived.Deep.CutRange
import Derived.Deep.CutBlock
namespace Go.Proofs.Qxb6500772a
open Go.RowKit Go.Qm
set_option linter.unusedVariables false
set_option linter.unusedSimpArgs false
attribute [local go_sem ↓] Go.wp_at_zero Go.wp_at_succ
theorem gateC_one {r : GRow} (h1 : r.2.1.oneCell' = true) (h2 : r.2.2.oneCell' = true) : ∀ u ∈ gateC r, u.oneCell' = true := by
  intro u hu
  simp only [gateC, List.mem_cons, List.not_mem_nil, or_false] at hu
  rcases hu with rfl | rfl | rfl | rfl | rfl | rfl
  · rfl
  · rfl
  · rfl
  · rfl
  · exact h1
  · exact h2
theorem app_gate {w : World} {B : Nat} {v : Value} {l : List GRow} (h : OwnS gateC 6 103 B w v l) (g : Nat) (x : GRow) (hg : Arr w g 103 (gateC x)) (h1 : ∀ u ∈ gateC x, u.oneCell' = true) (hB : B ≤ w.heap.size) (hl : l.length ≤ 1000000000) :
    ∃ v' w', (Builtin.append_ #[99, 99] 99 #[v, .slice (some ⟨g, 0, none⟩) 1 1]).run Try.prog w = .ok v' w' ∧ OwnS gateC 6 103 B w' v' (l ++ [x]) ∧ w.grownBy w' v.ownBlock ∧ (v'.ownBlock = v.ownBlock ∨ v'.ownBlock = some w.heap.size) := by
  obtain ⟨i, hi', hz', hs', hby⟩ := info_parts inf103
  have hnews : ∀ j u, (gateC x)[j]? = some u → w.cell? ((⟨g, 0, none⟩ : Addr).add j) = some u := fun j u hu => by
    have e : (⟨g, 0, none⟩ : Addr).add j = ⟨g, j, none⟩ := by unfold Addr.add; split <;> simp_all
    rw [e, Arr.cell hg, hu]
  obtain ⟨v', w', r1, r2, r3, _, r4⟩ := run_append_own_at (P := Try.prog) w B 99 99 103 i _ 6 80 Try.underlying99 hi' hz' hs' hby rfl (by omega) v l.length (l.flatMap gateC) h ⟨g, 0, none⟩ 1 1 (gateC x) rfl hnews h1 (by simp only [maxLen]; omega) (by omega) hB
  refine ⟨v', w', r1, ?_, r3, r4⟩
  unfold OwnS
  rw [List.length_append, List.flatMap_append]
  simpa using r2
attribute [-go_sem] Go.Builtin.append_
/-- What a call that adds to a circuit leaves. -/
def RetC (B gc : Nat) (gv : Value) (w : World) (R : List GRow) (n : Nat) (r e : Ending) (w' : World) : Prop := ∃ gv', e = r ∧ CW B w' gc gv' R n ∧ Stp (fpC gc gv) (fpC gc gv') w w'
set_option maxRecDepth 4000 in
set_option maxHeartbeats 4000000 in
theorem add_c {B gc n : Nat} {gv : Value} {R : List GRow} {w : World} (h : CW B w gc gv R n) (g : Gate) (xv yv : Value) (hr : RowOK w (fpC gc gv) (g, xv, yv)) (hl : R.length ≤ 1000000000) :
    Calls Try.prog 74 #[.pointer (some ⟨gc, 0, none⟩), .agg (gateC (g, xv, yv)).toArray] w fun e w' => RetC B gc gv w (R ++ [(g, xv, yv)]) n (.returned (.int .i64 (R.length : Nat))) e w' := by
  have HH := Hid.mk h
  have HR := Hid.mk hr
  obtain ⟨xa, xc, hxv, -⟩ := hr.x
  obtain ⟨ya, yc, hyv, -⟩ := hr.y
  rw [List.length_map] at hxv hyv
  simp only at hxv hyv
  subst hxv hyv
  obtain ⟨ga, gcp, hgv⟩ : ∃ a c, gv = .slice a R.length c := by
    rcases h.own.form with ⟨e, e2⟩ | ⟨g', cap, cur, e, -⟩
    · rw [e2]; exact ⟨_, _, e⟩
    · exact ⟨_, _, e⟩
  subst hgv
  obtain ⟨gk, ga', gb, go', gx, gy⟩ := g
  clear hr
  simp only [gateC]
  go_enter Try.func74, Try.ntmps74
  go_upto_region 1 with fail
  obtain ⟨w1, hw1⟩ : ∃ w1, w1 = w.alloc (.cells #[.int .i64 (gk : Nat), .int .i64 (ga' : Nat), .int .i64 (gb : Nat), .int .i64 (go' : Nat), .slice xa gx.length xc, .slice ya gy.length yc] 103) := ⟨_, rfl⟩
  rw [← hw1]
  have K1 : Keep w w1 := by rw [hw1]; exact (Keep.refl w).alloc _
  have A1 : Arr w1 w.heap.size 103 [.int .i64 (gk : Nat), .int .i64 (ga' : Nat), .int .i64 (gb : Nat), .int .i64 (go' : Nat), .slice xa gx.length xc, .slice ya gy.length yc] := by rw [hw1]; exact Arr.new w 103 _
  have hA : w.heap.size < w1.heap.size := A1.lt
  have HK1 := Hid.mk K1
  have hne : gc ≠ w.heap.size := fun e => by have := h.arr.lt; omega
  generalize w.heap.size = gA at *
  have a0 := A1.cell 0
  have a1 := A1.cell 1
  have a2 := A1.cell 2
  have a3 := A1.cell 3
  have a4 := A1.cell 4
  have a5 := A1.cell 5
  simp only [List.getElem?_cons_zero, List.getElem?_cons_succ] at a0 a1 a2 a3 a4 a5
  have h1 := h.keep K1
  have x0 : w1.cell? ⟨gc, 0, none⟩ = some (.slice ga R.length gcp) := h1.arr.cell 0
  have B1 : B ≤ w1.heap.size := Nat.le_trans h.lo (Nat.le_of_lt h1.arr.lt)
  obtain ⟨v', w', r1, r2, r3, r4⟩ := app_gate (h1.own.keep ((Keep.refl w1).alloc (.cells #[.int .i64 (gk : Nat), .int .i64 (ga' : Nat), .int .i64 (gb : Nat), .int .i64 (go' : Nat), .slice xa gx.length xc, .slice ya gy.length yc] 103)).drew) w1.heap.size (⟨gk, ga', gb, go', gx, gy⟩, .slice xa gx.length xc, .slice ya gy.length yc) ((Arr.new w1 103 _).drew) (gateC_one rfl rfl) (by simp; omega) hl
  obtain ⟨va, vc, hv'⟩ : ∃ a c, v' = .slice a (R.length + 1) c := by
    rcases r2.form with ⟨e, e2⟩ | ⟨g', cap, cur, e, -⟩
    · simp at e2
    · exact ⟨some ⟨g', 0, none⟩, cap, by rw [e]; simp⟩
  subst hv'
  have FR : Fr (fun q => (Value.slice ga R.length gcp).ownBlock = some q) w1 w' := (Fr.keep ((Keep.refl w1).alloc _).drew).trans (Fr.grown r3 (fun q hq => hq))
  have ARW := FR.arr (fun e => h1.nov e) h1.arr
  have x0w := ARW.cell 0
  have f0w := ARW.frozen 0
  have HARW := Hid.mk ARW
  have x0a : ((w1.alloc (.cells #[.int .i64 (gk : Nat), .int .i64 (ga' : Nat), .int .i64 (gb : Nat), .int .i64 (go' : Nat), .slice xa gx.length xc, .slice ya gy.length yc] 103)).drew).cell? ⟨gc, 0, none⟩ = some (.slice ga R.length gcp) := ((Keep.refl w1).alloc _).drew.cell x0
  have x0b : (w1.alloc (.cells #[.int .i64 (gk : Nat), .int .i64 (ga' : Nat), .int .i64 (gb : Nat), .int .i64 (go' : Nat), .slice xa gx.length xc, .slice ya gy.length yc] 103)).cell? ⟨gc, 0, none⟩ = some (.slice ga R.length gcp) := ((Keep.refl w1).alloc _).cell x0
  have HFR := Hid.mk FR
  have HR2 := Hid.mk r2
  have HR4 := Hid.mk r4
  have Hh1 := Hid.mk h1
  clear hw1 A1 h h1 FR ARW r2 r3 r4
  have FIN : CW B (w'.setCell ⟨gc, 0, none⟩ (.slice va (R.length + 1) vc)) gc (.slice va (R.length + 1) vc) (R ++ [(⟨gk, ga', gb, go', gx, gy⟩, .slice xa gx.length xc, .slice ya gy.length yc)]) n ∧ Stp (fpC gc (.slice ga R.length gcp)) (fpC gc (.slice va (R.length + 1) vc)) w (w'.setCell ⟨gc, 0, none⟩ (.slice va (R.length + 1) vc)) := by
    have hnew : ∀ q, (Value.slice va (R.length + 1) vc).ownBlock = some q → (Value.slice ga R.length gcp).ownBlock = some q ∨ w1.heap.size ≤ q := fun q hq => by
      rcases HR4.out with e | e
      · exact Or.inl (e ▸ hq)
      · rw [e] at hq
        have := Option.some.inj hq
        refine Or.inr ?_
        rw [← this]
        show w1.heap.size ≤ (w1.alloc _).heap.size
        simp
    have hgc := Hh1.out.arr.lt
    have nv : (Value.slice va (R.length + 1) vc).ownBlock ≠ some gc := fun e => by
      rcases hnew gc e with a | a
      · exact Hh1.out.nov a
      · omega
    have kS : Fr (fun q => q = gc) w' (w'.setCell ⟨gc, 0, none⟩ (.slice va (R.length + 1) vc)) := Fr.setCell (p := ⟨gc, 0, none⟩) (Fr.refl (fun q => q = gc) w') (Or.inl rfl) _
    have st : Stp (fpC gc (.slice ga R.length gcp)) (fpC gc (.slice va (R.length + 1) vc)) w (w'.setCell ⟨gc, 0, none⟩ (.slice va (R.length + 1) vc)) := by
      refine ⟨((Fr.keep HK1.out).trans (HFR.out.mono (fun q _ a => Or.inr a))).trans (kS.mono (fun q _ a => Or.inl a)), fun q hq => ?_⟩
      rcases hq with a | a
      · exact Or.inl (Or.inl a)
      · rcases hnew q a with b | b
        · exact Or.inl (Or.inr b)
        · exact Or.inr (Nat.le_trans HK1.out.size b)
    refine ⟨⟨HARW.out.set 0 _, HR2.out.fr kS (fun q hq e => nv (by rw [← e]; exact hq)), fun r hr => ?_, nv, HH.out.lo⟩, st⟩
    rcases List.mem_append.1 hr with a | a
    · exact (HH.out.row r a).step st
    · rw [List.mem_singleton.1 a]
      exact HR.out.step st
  have HFIN := Hid.mk FIN
  clear FIN
  go_region
  generalize w'.setCell ⟨gc, 0, none⟩ (.slice va (R.length + 1) vc) = y at *
  have y0 : y.cell? ⟨gc, 0, none⟩ = some (.slice va (R.length + 1) vc) := HFIN.out.1.arr.cell 0
  have hl2 : (R.length : Int) ≤ 1000000000 := by omega
  clear x0w f0w x0a x0b x0 a0 a1 a2 a3 a4 a5 r1
  go_wp2_with fail
  go_ret
  exact ⟨_, by first | rfl | (congr 2; push_cast; omega), HFIN.out.1, HFIN.out.2⟩
end Go.Proofs.Qxb6500772a
