/- blastlaw: step. -/
import Derived.Test.Qxb6500772aGi
import Derived.Test.Qxb6500772aGk
import Derived.Test.Qxb6500772aGm
import Derived.Test.Qxb6500772aGn
import Derived.Test.Qxb6500772aGp
import Derived.Test.Qxb6500772aXd
namespace Go.Proofs.Qxb6500772a
open Go Go.RowKit Go.Qm
set_option linter.unusedVariables false
set_option linter.unusedSimpArgs false
attribute [local go_sem ↓] Go.wp_at_zero Go.wp_at_succ
def BdK (k : Nat) (cels : List Cel) (es : List NE) (ss : List NS) (cu nx : List (Int × Nat)) : Prop := cels.length ≤ k ∧ es.length ≤ k ∧ ss.length ≤ k ∧ cu.length ≤ k ∧ nx.length ≤ k ∧ (ss.map nsz).sum ≤ k
def StepO (B gb k : Nat) (w : World) (e : Ending) (w' : World) : Prop := e = .returned (.tuple #[]) ∧ BSt B gb (k + 1) w' ∧ Fr (fun q => B ≤ q) w w'
/-- How step finds its builder: op boxed at the end. -/
structure SIn (B : Nat) (P : Nat → Prop) (w W : World) (gb gO : Nat) (cv xv sv pv nv : Value) (cels : List Cel) (es : List NE) (ss : List NS) (bad : NE) (cu nx : List (Int × Nat)) (cf : Bool) (nf : Int) (os : List Value) : Prop where
  k : Keep w W
  b : BB B P W gb cv xv sv pv nv cels es ss bad cu nx cf nf
  o : Arr W gO 81 os
  ge : gO = w.heap.size
  b0 : BB B P w gb cv xv sv pv nv cels es ss bad cu nx cf nf
section
variable {B : Nat} {P : Nat → Prop} {w : World} {gb : Nat} {cv xv sv pv nv : Value} {cels : List Cel} {es : List NE} {ss : List NS} {bad : NE} {cu nx : List (Int × Nat)} {cf : Bool} {nf : Int} {W w' : World} {gO k : Nat} {os : List Value}
theorem SIn.of (h : BB B P w gb cv xv sv pv nv cels es ss bad cu nx cf nf) (a b c d e : Value) : SIn B P w (w.alloc (.cells #[a, b, c, d, e] 81)) gb w.heap.size cv xv sv pv nv cels es ss bad cu nx cf nf [a, b, c, d, e] :=
  ⟨(Keep.refl w).alloc _, h.keep ((Keep.refl w).alloc _), Arr.new w 81 _, rfl, h⟩
theorem SIn.ne (h : SIn B P w W gb gO cv xv sv pv nv cels es ss bad cu nx cf nf os) : gO ≠ gb := fun e => by
  have := h.b0.ar.lt
  have := h.ge
  omega
theorem SIn.drew (h : SIn B P w W gb gO cv xv sv pv nv cels es ss bad cu nx cf nf os) : SIn B P w W.drew gb gO cv xv sv pv nv cels es ss bad cu nx cf nf os :=
  ⟨h.k.drew, h.b.keep (Keep.refl W).drew, h.o.keep (Keep.refl W).drew, h.ge, h.b0⟩
theorem SIn.fr (h : SIn B P w W gb gO cv xv sv pv nv cels es ss bad cu nx cf nf os) {R : Nat → Prop} (f : Fr R W w') (hr : ∀ q, R q → fpB gb cv xv sv pv nv q) : Fr (fun q => B ≤ q) w w' := by
  refine (Fr.keep h.k).trans (f.mono (fun q _ a => ?_))
  rcases hr q a with a | a | a | a | a | a
  · rw [a]; exact h.b.lo
  · exact (h.b.oc.lt q a).1
  · exact (h.b.oe.lt q a).1
  · exact (h.b.os.lt q a).1
  · exact (h.b.ou.lt q a).1
  · exact (h.b.on.lt q a).1
theorem finC (h : SIn B P w W gb gO cv xv sv pv nv cels es ss bad cu nx cf nf os) (hk : BdK k cels es ss cu nx) {g c : Nat} {x : Cel} (L : Lat celC 70 gb W (fun v => bbL v xv sv bad pv nv cf nf) (fun _ c => CelR c) (fun w v l => BBr B P w gb v xv sv pv nv l es ss bad cu nx nf) cv cels g c x true w') : BSt B gb (k + 1) w' ∧ Fr (fun q => B ≤ q) w w' := by
  obtain ⟨k1, k2, k3, k4, k5, k6⟩ := hk
  refine ⟨⟨P, _, xv, sv, pv, nv, _, es, ss, bad, cu, nx, cf, nf, BBr.b (cf := cf) L.c L.ar, ⟨by simp; omega, by omega, by omega, by omega, by omega, by omega⟩⟩, h.fr L.fr (fun q a => a.elim (fun e => Or.inl e) (fun a => Or.inr (Or.inl a)))⟩
theorem finE (h : SIn B P w W gb gO cv xv sv pv nv cels es ss bad cu nx cf nf os) (hk : BdK k cels es ss cu nx) {g c : Nat} {x : NE} (L : Lat neC 31 gb W (fun v => bbL cv v sv bad pv nv cf nf) (fun w x => NEok P w x) (fun w v l => BBr B P w gb cv v sv pv nv cels l ss bad cu nx nf) xv es g c x true w') : BSt B gb (k + 1) w' ∧ Fr (fun q => B ≤ q) w w' := by
  obtain ⟨k1, k2, k3, k4, k5, k6⟩ := hk
  refine ⟨⟨P, cv, _, sv, pv, nv, cels, _, ss, bad, cu, nx, cf, nf, BBr.b (cf := cf) L.c L.ar, ⟨by omega, by simp; omega, by omega, by omega, by omega, by omega⟩⟩, h.fr L.fr (fun q a => a.elim (fun e => Or.inl e) (fun a => Or.inr (Or.inr (Or.inl a))))⟩
theorem finS (h : SIn B P w W gb gO cv xv sv pv nv cels es ss bad cu nx cf nf os) (hk : BdK k cels es ss cu nx) {g c m : Nat} {x : NS} (L : Lat nsC 109 gb W (fun v => bbL cv xv v bad pv nv cf nf) (fun w x => NSok P w x) (fun w v l => BBr B P w gb cv xv v pv nv cels es l bad cu nx nf) sv ss g c x true w') (hx : nsz x = m) (hm : (ss.map nsz).sum + m ≤ k + 1) : BSt B gb (k + 1) w' ∧ Fr (fun q => B ≤ q) w w' := by
  obtain ⟨k1, k2, k3, k4, k5, k6⟩ := hk
  refine ⟨⟨P, cv, xv, _, pv, nv, cels, es, _, bad, cu, nx, cf, nf, BBr.b (cf := cf) L.c L.ar, ⟨by omega, by omega, by simp; omega, by omega, by omega, by rw [List.map_append, List.sum_append]; simp; omega⟩⟩, h.fr L.fr (fun q a => a.elim (fun e => Or.inl e) (fun a => Or.inr (Or.inr (Or.inr (Or.inl a)))))⟩
theorem finU (h : SIn B P w W gb gO cv xv sv pv nv cels es ss bad cu nx cf nf os) (hk : BdK k cels es ss cu nx) {g c : Nat} {x : Int × Nat} (L : Lat paC 129 gb W (fun v => bbL cv xv sv bad v nv cf nf) (fun _ p => I64 p.1 ∧ p.2 < 2 ^ 64) (fun w v l => BBr B P w gb cv xv sv v nv cels es ss bad l nx nf) pv cu g c x true w') : BSt B gb (k + 1) w' ∧ Fr (fun q => B ≤ q) w w' := by
  obtain ⟨k1, k2, k3, k4, k5, k6⟩ := hk
  refine ⟨⟨P, cv, xv, sv, _, nv, cels, es, ss, bad, _, nx, cf, nf, BBr.b (cf := cf) L.c L.ar, ⟨by omega, by omega, by omega, by simp; omega, by omega, by omega⟩⟩, h.fr L.fr (fun q a => a.elim (fun e => Or.inl e) (fun a => Or.inr (Or.inr (Or.inr (Or.inr (Or.inl a))))))⟩
theorem finN (h : SIn B P w W gb gO cv xv sv pv nv cels es ss bad cu nx cf nf os) (hk : BdK k cels es ss cu nx) {g c : Nat} {x : Int × Nat} (L : Lat paC 129 gb W (fun v => bbL cv xv sv bad pv v cf nf) (fun _ p => I64 p.1 ∧ p.2 < 2 ^ 64) (fun w v l => BBr B P w gb cv xv sv pv v cels es ss bad cu l nf) nv nx g c x true w') : BSt B gb (k + 1) w' ∧ Fr (fun q => B ≤ q) w w' := by
  obtain ⟨k1, k2, k3, k4, k5, k6⟩ := hk
  refine ⟨⟨P, cv, xv, sv, pv, _, cels, es, ss, bad, cu, _, cf, nf, BBr.b (cf := cf) L.c L.ar, ⟨by omega, by omega, by omega, by omega, by simp; omega, by omega⟩⟩, h.fr L.fr (fun q a => a.elim (fun e => Or.inl e) (fun a => Or.inr (Or.inr (Or.inr (Or.inr (Or.inr (a)))))))⟩
theorem BBr.hd (h : BBr B P w gb cv xv sv pv nv cels es ss bad cu nx nf) {cs : List Value} (a : Arr w gb 78 cs) (u : Value) (j : Nat) : BBr B P (w.setCell ⟨gb, j, none⟩ u) gb cv xv sv pv nv cels es ss bad cu nx nf ∧ Fr (fun q => q = gb) w (w.setCell ⟨gb, j, none⟩ u) := by
  have f : Fr (fun q => q = gb) w (w.setCell ⟨gb, j, none⟩ u) := Fr.setCell (P := fun q => q = gb) (p := ⟨gb, j, none⟩) (Fr.refl _ w) (Or.inl rfl) u
  exact ⟨(focC (P := P) (xv := xv) (sv := sv) (pv := pv) (nv := nv) (es := es) (ss := ss) (bad := bad) (cu := cu) (nx := nx) (cf := false) (nf := nf) h.lo).upd h a f (fun q e => Or.inr (Or.inr e)) (h.oc.fr f (fun q hq e => OwnS.neA h.oc a (by decide) (by rw [← show q = gb from e]; exact hq))) h.hc (fun q a => Or.inl a), f⟩
theorem BBr.nf' (h : BBr B P w gb cv xv sv pv nv cels es ss bad cu nx nf) {z : Int} (hz : I64 z) : BBr B P w gb cv xv sv pv nv cels es ss bad cu nx z :=
  ⟨h.lo, h.oc, h.oe, h.os, h.ou, h.on, h.hc, h.he, h.hs, h.hb, h.hu, h.hn, hz, h.sp, h.un⟩
theorem BBr.bad' (h : BBr B P w gb cv xv sv pv nv cels es ss bad cu nx nf) {cs : List Value} (a : Arr w gb 78 cs) {x : NE} (hx : NEok P w x) : BBr B P (stC w gb 3 (neC x)) gb cv xv sv pv nv cels es ss x cu nx nf ∧ Fr (fun q => q = gb) w (stC w gb 3 (neC x)) := by
  have f := stC_fr (g := gb) (neC x) w 3
  have kp : KP P w (stC w gb 3 (neC x)) := KP.fr f (fun q a e => (h.sp q a).2.2.1 e)
  have r := (focC (P := P) (xv := xv) (sv := sv) (pv := pv) (nv := nv) (es := es) (ss := ss) (bad := bad) (cu := cu) (nx := nx) (cf := false) (nf := nf) h.lo).upd h a f (fun q e => Or.inr (Or.inr e)) (h.oc.fr f (fun q hq e => OwnS.neA h.oc a (by decide) (by rw [← show q = gb from e]; exact hq))) h.hc (fun q a => Or.inl a)
  exact ⟨⟨r.lo, r.oc, r.oe, r.os, r.ou, r.on, r.hc, r.he, r.hs, hx.step kp, r.hu, r.hn, r.hf, r.sp, r.un⟩, f⟩
end
end Go.Proofs.Qxb6500772a
