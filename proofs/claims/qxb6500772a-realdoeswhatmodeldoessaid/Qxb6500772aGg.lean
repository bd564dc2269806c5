/- blastlaw: the five stacks of the builder, each in the eye. -/
import Derived.Test.Qxb6500772aGe
namespace Go.Proofs.Qxb6500772a
open Go Go.RowKit Go.Qm
set_option linter.unusedVariables false
set_option linter.unusedSimpArgs false
/-- The builder but for its header. -/
structure BBr (B : Nat) (P : Nat → Prop) (w : World) (gb : Nat) (cv xv sv pv nv : Value) (cels : List Cel) (es : List NE) (ss : List NS) (bad : NE) (cu nx : List (Int × Nat)) (nf : Int) : Prop where
  lo : B ≤ gb
  oc : OwnS celC 5 70 B w cv cels
  oe : OwnS neC 7 31 B w xv es
  os : OwnS nsC 8 109 B w sv ss
  ou : OwnS paC 2 129 B w pv cu
  on : OwnS paC 2 129 B w nv nx
  hc : ∀ c ∈ cels, CelR c
  he : ∀ x ∈ es, NEok P w x
  hs : ∀ x ∈ ss, NSok P w x
  hb : NEok P w bad
  hu : ∀ p ∈ cu, I64 p.1 ∧ p.2 < 2 ^ 64
  hn : ∀ p ∈ nx, I64 p.1 ∧ p.2 < 2 ^ 64
  hf : I64 nf
  sp : ∀ q, P q → B ≤ q ∧ q < w.heap.size ∧ q ≠ gb ∧ cv.ownBlock ≠ some q ∧ xv.ownBlock ≠ some q ∧ sv.ownBlock ≠ some q ∧ pv.ownBlock ≠ some q ∧ nv.ownBlock ≠ some q
  un : ∀ q, pv.ownBlock = some q → nv.ownBlock ≠ some q
section
variable {B : Nat} {P : Nat → Prop} {w : World} {gb : Nat} {cv xv sv pv nv : Value} {cels : List Cel} {es : List NE} {ss : List NS} {bad : NE} {cu nx : List (Int × Nat)} {cf : Bool} {nf : Int}
theorem BB.r (h : BB B P w gb cv xv sv pv nv cels es ss bad cu nx cf nf) : BBr B P w gb cv xv sv pv nv cels es ss bad cu nx nf := ⟨h.lo, h.oc, h.oe, h.os, h.ou, h.on, h.hc, h.he, h.hs, h.hb, h.hu, h.hn, h.hf, h.sp, h.un⟩
theorem BBr.b (h : BBr B P w gb cv xv sv pv nv cels es ss bad cu nx nf) (a : Arr w gb 78 (bbL cv xv sv bad pv nv cf nf)) : BB B P w gb cv xv sv pv nv cels es ss bad cu nx cf nf := ⟨a, h.lo, h.oc, h.oe, h.os, h.ou, h.on, h.hc, h.he, h.hs, h.hb, h.hu, h.hn, h.hf, h.sp, h.un⟩
theorem sepA {α β : Type} {f : α → List Value} {g : β → List Value} {sz sz' : Nat} {e e' : TypeId} {B' : Nat} {v v' : Value} {l : List α} {l' : List β} {R : Nat → Prop} {cs : List Value} (h : OwnS f sz e B w v l) (h' : OwnS g sz' e' B' w v' l') (a : Arr w gb 78 cs) (hR : ∀ q, R q → v.ownBlock = some q ∨ w.heap.size ≤ q ∨ q = gb) (hne : ∀ q, v.ownBlock = some q → v'.ownBlock ≠ some q) (h78 : e' ≠ 78) : ∀ q, v'.ownBlock = some q → ¬ R q := by
  intro q hq hr
  rcases hR q hr with x | x | x
  · exact hne q x hq
  · have := (h'.lt q hq).2; omega
  · subst x; exact OwnS.neA h' a h78 hq
theorem NEok.one {x : NE} (h : NEok P w x) : ∀ u ∈ neC x, u.oneCell' = true := by
  obtain ⟨ka, kc, hk, -, -⟩ := h.2.1.form
  intro u hu
  simp only [neC, efC, List.mem_cons, List.not_mem_nil, or_false] at hu
  rcases hu with rfl | rfl | rfl | rfl | rfl | rfl | rfl <;> first | rfl | (rw [hk]; rfl)
theorem NSok.one {x : NS} (h : NSok P w x) : ∀ u ∈ nsC x, u.oneCell' = true := by
  obtain ⟨ka, kc, hk, -, -⟩ := h.2.1.form
  obtain ⟨ta, tc, ht, -, -⟩ := h.2.2.2.1.form
  obtain ⟨la, lc, hl, -, -⟩ := h.2.2.2.2.2.1.form
  intro u hu
  simp only [nsC, sfC, List.mem_cons, List.not_mem_nil, or_false] at hu
  rcases hu with rfl | rfl | rfl | rfl | rfl | rfl | rfl | rfl <;> first | rfl | (rw [hk]; rfl) | (rw [ht]; rfl) | (rw [hl]; rfl)
theorem focC (hlo : B ≤ gb) : Foc celC 5 70 24 B gb 0 (fun v => bbL v xv sv bad pv nv cf nf) (fun _ c => CelR c) (fun w v l => BBr B P w gb v xv sv pv nv l es ss bad cu nx nf) where
  fl := celC_len
  st := fun v v' => rfl
  ge := fun v => rfl
  ne := by decide
  lo := hlo
  inf := ⟨_, _, Try.underlying24, inf70, rfl, by decide, by decide⟩
  one := fun {w x} _ u hu => by
    simp only [celC, List.mem_cons, List.not_mem_nil, or_false] at hu
    rcases hu with rfl | rfl | rfl | rfl | rfl <;> rfl
  own := fun h => h.oc
  ok := fun h => h.hc
  okf := fun _ _ hx _ _ => hx
  upd := fun {w w' v v' l l' cs R} h ar f hR ho hok hb => by
    have kp : KP P w w' := KP.fr f (fun q a r => by
      rcases hR q r with x | x | x
      · exact (h.sp q a).2.2.2.1 x
      · have := (h.sp q a).2.1; omega
      · exact (h.sp q a).2.2.1 x)
    refine ⟨h.lo, ho, h.oe.fr f (sepA h.oc h.oe ar hR (OwnS.ne h.oc h.oe (by decide)) (by decide)), h.os.fr f (sepA h.oc h.os ar hR (OwnS.ne h.oc h.os (by decide)) (by decide)), h.ou.fr f (sepA h.oc h.ou ar hR (OwnS.ne h.oc h.ou (by decide)) (by decide)), h.on.fr f (sepA h.oc h.on ar hR (OwnS.ne h.oc h.on (by decide)) (by decide)), hok, fun x hx => (h.he x hx).step kp, fun x hx => (h.hs x hx).step kp, h.hb.step kp, h.hu, h.hn, h.hf, fun q hq => ?_, h.un⟩
    obtain ⟨s0, s1, s2, s3, s4, s5, s6, s7⟩ := h.sp q hq
    exact ⟨s0, Nat.lt_of_lt_of_le s1 f.size, s2, (fun a => (hb q a).elim (fun x => s3 x) (fun x => by omega)), s4, s5, s6, s7⟩
theorem focE (hlo : B ≤ gb) : Foc neC 7 31 29 B gb 1 (fun v => bbL cv v sv bad pv nv cf nf) (fun w x => NEok P w x) (fun w v l => BBr B P w gb cv v sv pv nv cels l ss bad cu nx nf) where
  fl := neC_len
  st := fun v v' => rfl
  ge := fun v => rfl
  ne := by decide
  lo := hlo
  inf := ⟨_, _, Try.underlying29, inf31, rfl, by decide, by decide⟩
  one := fun {w x} h => h.one
  own := fun h => h.oe
  ok := fun h => h.he
  okf := fun {w w' v l x cs R} h ar hx f hR => hx.step (KP.fr f (fun q a r => by
    rcases hR q r with x | x | x
    · exact (h.sp q a).2.2.2.2.1 x
    · have := (h.sp q a).2.1; omega
    · exact (h.sp q a).2.2.1 x))
  upd := fun {w w' v v' l l' cs R} h ar f hR ho hok hb => by
    have kp : KP P w w' := KP.fr f (fun q a r => by
      rcases hR q r with x | x | x
      · exact (h.sp q a).2.2.2.2.1 x
      · have := (h.sp q a).2.1; omega
      · exact (h.sp q a).2.2.1 x)
    refine ⟨h.lo, h.oc.fr f (sepA h.oe h.oc ar hR (OwnS.ne h.oe h.oc (by decide)) (by decide)), ho, h.os.fr f (sepA h.oe h.os ar hR (OwnS.ne h.oe h.os (by decide)) (by decide)), h.ou.fr f (sepA h.oe h.ou ar hR (OwnS.ne h.oe h.ou (by decide)) (by decide)), h.on.fr f (sepA h.oe h.on ar hR (OwnS.ne h.oe h.on (by decide)) (by decide)), h.hc, fun x hx => (hok x hx).step kp, fun x hx => (h.hs x hx).step kp, h.hb.step kp, h.hu, h.hn, h.hf, fun q hq => ?_, h.un⟩
    obtain ⟨s0, s1, s2, s3, s4, s5, s6, s7⟩ := h.sp q hq
    exact ⟨s0, Nat.lt_of_lt_of_le s1 f.size, s2, s3, (fun a => (hb q a).elim (fun x => s4 x) (fun x => by omega)), s5, s6, s7⟩
theorem focS (hlo : B ≤ gb) : Foc nsC 8 109 25 B gb 2 (fun v => bbL cv xv v bad pv nv cf nf) (fun w x => NSok P w x) (fun w v l => BBr B P w gb cv xv v pv nv cels es l bad cu nx nf) where
  fl := nsC_len
  st := fun v v' => rfl
  ge := fun v => rfl
  ne := by decide
  lo := hlo
  inf := ⟨_, _, Try.underlying25, inf109, rfl, by decide, by decide⟩
  one := fun {w x} h => h.one
  own := fun h => h.os
  ok := fun h => h.hs
  okf := fun {w w' v l x cs R} h ar hx f hR => hx.step (KP.fr f (fun q a r => by
    rcases hR q r with x | x | x
    · exact (h.sp q a).2.2.2.2.2.1 x
    · have := (h.sp q a).2.1; omega
    · exact (h.sp q a).2.2.1 x))
  upd := fun {w w' v v' l l' cs R} h ar f hR ho hok hb => by
    have kp : KP P w w' := KP.fr f (fun q a r => by
      rcases hR q r with x | x | x
      · exact (h.sp q a).2.2.2.2.2.1 x
      · have := (h.sp q a).2.1; omega
      · exact (h.sp q a).2.2.1 x)
    refine ⟨h.lo, h.oc.fr f (sepA h.os h.oc ar hR (OwnS.ne h.os h.oc (by decide)) (by decide)), h.oe.fr f (sepA h.os h.oe ar hR (OwnS.ne h.os h.oe (by decide)) (by decide)), ho, h.ou.fr f (sepA h.os h.ou ar hR (OwnS.ne h.os h.ou (by decide)) (by decide)), h.on.fr f (sepA h.os h.on ar hR (OwnS.ne h.os h.on (by decide)) (by decide)), h.hc, fun x hx => (h.he x hx).step kp, fun x hx => (hok x hx).step kp, h.hb.step kp, h.hu, h.hn, h.hf, fun q hq => ?_, h.un⟩
    obtain ⟨s0, s1, s2, s3, s4, s5, s6, s7⟩ := h.sp q hq
    exact ⟨s0, Nat.lt_of_lt_of_le s1 f.size, s2, s3, s4, (fun a => (hb q a).elim (fun x => s5 x) (fun x => by omega)), s6, s7⟩
theorem focU (hlo : B ≤ gb) : Foc paC 2 129 76 B gb 10 (fun v => bbL cv xv sv bad v nv cf nf) (fun _ p => I64 p.1 ∧ p.2 < 2 ^ 64) (fun w v l => BBr B P w gb cv xv sv v nv cels es ss bad l nx nf) where
  fl := paC_len
  st := fun v v' => rfl
  ge := fun v => rfl
  ne := by decide
  lo := hlo
  inf := ⟨_, _, Try.underlying76, inf129, rfl, by decide, by decide⟩
  one := fun {w x} _ u hu => by
    simp only [paC, List.mem_cons, List.not_mem_nil, or_false] at hu
    rcases hu with rfl | rfl <;> rfl
  own := fun h => h.ou
  ok := fun h => h.hu
  okf := fun _ _ hx _ _ => hx
  upd := fun {w w' v v' l l' cs R} h ar f hR ho hok hb => by
    have kp : KP P w w' := KP.fr f (fun q a r => by
      rcases hR q r with x | x | x
      · exact (h.sp q a).2.2.2.2.2.2.1 x
      · have := (h.sp q a).2.1; omega
      · exact (h.sp q a).2.2.1 x)
    refine ⟨h.lo, h.oc.fr f (sepA h.ou h.oc ar hR (OwnS.ne h.ou h.oc (by decide)) (by decide)), h.oe.fr f (sepA h.ou h.oe ar hR (OwnS.ne h.ou h.oe (by decide)) (by decide)), h.os.fr f (sepA h.ou h.os ar hR (OwnS.ne h.ou h.os (by decide)) (by decide)), ho, h.on.fr f (sepA h.ou h.on ar hR h.un (by decide)), h.hc, fun x hx => (h.he x hx).step kp, fun x hx => (h.hs x hx).step kp, h.hb.step kp, hok, h.hn, h.hf, fun q hq => ?_, fun q a b => (hb q a).elim (fun x => h.un q x b) (fun x => by have := (h.on.lt q b).2; omega)⟩
    obtain ⟨s0, s1, s2, s3, s4, s5, s6, s7⟩ := h.sp q hq
    exact ⟨s0, Nat.lt_of_lt_of_le s1 f.size, s2, s3, s4, s5, (fun a => (hb q a).elim (fun x => s6 x) (fun x => by omega)), s7⟩
theorem focN (hlo : B ≤ gb) : Foc paC 2 129 76 B gb 11 (fun v => bbL cv xv sv bad pv v cf nf) (fun _ p => I64 p.1 ∧ p.2 < 2 ^ 64) (fun w v l => BBr B P w gb cv xv sv pv v cels es ss bad cu l nf) where
  fl := paC_len
  st := fun v v' => rfl
  ge := fun v => rfl
  ne := by decide
  lo := hlo
  inf := ⟨_, _, Try.underlying76, inf129, rfl, by decide, by decide⟩
  one := fun {w x} _ u hu => by
    simp only [paC, List.mem_cons, List.not_mem_nil, or_false] at hu
    rcases hu with rfl | rfl <;> rfl
  own := fun h => h.on
  ok := fun h => h.hn
  okf := fun _ _ hx _ _ => hx
  upd := fun {w w' v v' l l' cs R} h ar f hR ho hok hb => by
    have kp : KP P w w' := KP.fr f (fun q a r => by
      rcases hR q r with x | x | x
      · exact (h.sp q a).2.2.2.2.2.2.2 x
      · have := (h.sp q a).2.1; omega
      · exact (h.sp q a).2.2.1 x)
    refine ⟨h.lo, h.oc.fr f (sepA h.on h.oc ar hR (OwnS.ne h.on h.oc (by decide)) (by decide)), h.oe.fr f (sepA h.on h.oe ar hR (OwnS.ne h.on h.oe (by decide)) (by decide)), h.os.fr f (sepA h.on h.os ar hR (OwnS.ne h.on h.os (by decide)) (by decide)), h.ou.fr f (sepA h.on h.ou ar hR (fun q x y => h.un q y x) (by decide)), ho, h.hc, fun x hx => (h.he x hx).step kp, fun x hx => (h.hs x hx).step kp, h.hb.step kp, h.hu, hok, h.hf, fun q hq => ?_, fun q a b => (hb q b).elim (fun x => h.un q a x) (fun x => by have := (h.ou.lt q a).2; omega)⟩
    obtain ⟨s0, s1, s2, s3, s4, s5, s6, s7⟩ := h.sp q hq
    exact ⟨s0, Nat.lt_of_lt_of_le s1 f.size, s2, s3, s4, s5, s6, (fun a => (hb q a).elim (fun x => s7 x) (fun x => by omega))⟩
end
/-- What step keeps: a builder whose stacks hold at most k things. -/
def BSt (B gb k : Nat) (w : World) : Prop := ∃ P cv xv sv pv nv cels es ss bad cu nx cf nf, BB B P w gb cv xv sv pv nv cels es ss bad cu nx cf nf ∧ cels.length ≤ k ∧ es.length ≤ k ∧ ss.length ≤ k ∧ cu.length ≤ k ∧ nx.length ≤ k ∧ (ss.map nsz).sum ≤ k
def zE : NE := ⟨⟨0, 0, 0, 0, 0, 0⟩, .slice none 0 0, .nil, []⟩
def zS : NS := ⟨⟨0, 0, 0, 0, 0⟩, .slice none 0 0, .slice none 0 0, .slice none 0 0, .nil, .nil, .nil, [], [], []⟩
theorem rows_nil (P : Nat → Prop) (w : World) (sz : Nat) : Rows P w (.slice none 0 0) sz [] := ⟨none, 0, rfl, Nat.le_refl _, by simp [maxLen], fun i hi => by simp at hi⟩
theorem zE_ok (P : Nat → Prop) (w : World) : NEok P w zE := ⟨by constructor <;> simp [zE, I64], rows_nil P w 7, rfl⟩
theorem zS_ok (P : Nat → Prop) (w : World) : NSok P w zS := ⟨by constructor <;> simp [zS, I64], rows_nil P w 7, rfl, rows_nil P w 8, rfl, rows_nil P w 8, rfl⟩
end Go.Proofs.Qxb6500772a
