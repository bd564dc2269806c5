/- HandlesOutliveNames: the plain part, and the arrays. -/
import Derived.Test.Qxb6500767aIe
namespace Go.Proofs.Qxb6500767a
open Go.RowKit Go.Qm
set_option linter.unusedVariables false
set_option linter.unusedSimpArgs false
attribute [local go_sem ↓] Go.wp_at_zero Go.wp_at_succ
def onN (k : Int) : Bool := decide (16 ≤ k) && decide (k ≤ 21)
theorem onNames_c (k : Int) (w : World) : Calls Try.prog 23 #[.int .i64 k] w fun e w' => e = .returned (.bool (onN k)) ∧ w' = w := by
  by_cases h : 16 ≤ k
  · have HV : Hid (onN k = decide (k ≤ 21)) := Hid.mk (by unfold onN; rw [decide_eq_true h]; rfl)
    have z : decide (16 ≤ k) = true := decide_eq_true h
    generalize onN k = V at *
    go_enter Try.func23, Try.ntmps23
    go_wp2_with fail
    go_ret
    rw [HV.out]
    exact ⟨rfl, rfl⟩
  · have HV : Hid (onN k = false) := Hid.mk (by unfold onN; rw [decide_eq_false h]; rfl)
    have z : decide (16 ≤ k) = false := decide_eq_false h
    generalize onN k = V at *
    go_enter Try.func23, Try.ntmps23
    go_wp2_with fail
    go_ret
    rw [HV.out]
    exact ⟨rfl, rfl⟩
theorem names_law {s : Stt} {k : Nat} (si : SI k s.u s.hs s.T) {o : OpV} (h : onN o.kind = true) : (playF s o).2.u = s.u ∧ (playF s o).2.hs = s.hs ∧ NS s.T (playF s o).2.T := by
  have hk : 16 ≤ o.kind ∧ o.kind ≤ 21 := by unfold onN at h; simpa using h
  have : o.kind = 16 ∨ o.kind = 17 ∨ o.kind = 18 ∨ o.kind = 19 ∨ o.kind = 20 ∨ o.kind = 21 := by omega
  rcases this with h | h | h | h | h | h
  · rw [playF16 h]; exact ⟨rfl, rfl, (mkd_si si o.path o.mode).2⟩
  · rw [playF17 h]; exact ⟨rfl, rfl, (unl_si si o.path).2⟩
  · rw [playF18 h]; exact ⟨rfl, rfl, (rmd_si si o.path).2⟩
  · rw [playF19 h]; exact ⟨rfl, rfl, (ren_si si o.path o.path2).2⟩
  · rw [playF20 h]; exact ⟨rfl, rfl, (link_si si o.path o.path2).2⟩
  · rw [playF21 h]; exact ⟨rfl, rfl, (sym_si si o.path o.path2).2⟩
theorem fst_ns {k u : Nat} {hs : List Hd} {T T' : List Nd} (si : SI k u hs T) (ns : NS T T') {n : Nat} (hn : n < 32) :
    (fstF u hs T' n).1.ino = (fstF u hs T n).1.ino ∧ (fstF u hs T' n).1.kind = (fstF u hs T n).1.kind ∧ (fstF u hs T' n).1.mode = (fstF u hs T n).1.mode ∧ ((fstF u hs T' n).1.kind ≠ 2 → (fstF u hs T' n).1.size = (fstF u hs T n).1.size) ∧ ((fstF u hs T' n).2 == 0) = u.testBit n := by
  have ho : getOK u hs (n : Int) 0 = u.testBit n := by rw [getOK_zero]; unfold opn; rw [decide_eq_true (by omega), decide_eq_true (by omega)]; simp
  cases hb : u.testBit n with
  | false =>
    unfold fstF
    rw [if_pos (by rw [ho, hb]), if_pos (by rw [ho, hb])]
    exact ⟨rfl, rfl, rfl, fun _ => rfl, rfl⟩
  | true =>
    unfold fstF
    rw [if_neg (by rw [ho, hb]; decide), if_neg (by rw [ho, hb]; decide), Int.toNat_natCast]
    obtain ⟨h1, h2, h3⟩ := ns.same _ (si.h.opos hn hb)
    unfold statF
    simp only
    refine ⟨trivial, h1, h2, fun hk => ?_, rfl⟩
    rw [if_neg hk, if_neg (by rw [← h1]; exact hk), h3]
theorem rda_ns {k u : Nat} {hs : List Hd} {T T' : List Nd} (si : SI k u hs T) (ns : NS T T') {n : Nat} (hn : n < 32) (off m : Int) : rdaF u hs T' n off m = rdaF u hs T n off m := by
  cases hg : getOK u hs (n : Int) 1 with
  | false => unfold rdaF; rw [if_pos hg, if_pos hg]
  | true =>
    obtain ⟨n', e, -, hb⟩ := getOK_lt hg
    have : n' = n := by omega
    subst this
    obtain ⟨h1, h2, h3⟩ := ns.same _ (si.h.opos hn hb)
    unfold rdaF
    rw [Int.toNat_natCast, h3]
theorem staC_length (x : Sta) : (staC x).length = 5 := rfl
theorem sta_len (l : List Sta) : (l.flatMap staC).length = l.length * 5 := by
  induction l with
  | nil => rfl
  | cons x l ih => rw [List.flatMap_cons, List.length_append, ih, staC_length, List.length_cons]; omega
theorem zero54 : Try.zeroCells54 = ((List.replicate 32 sta0).flatMap staC).toArray := by kernel_rfl
theorem _root_.Go.Qm.Arr.sget {w : World} {g : Nat} {l : List Sta} (h : Arr w g 54 (l.flatMap staC)) {n : Nat} (hn : n < l.length) :
    w.cell? ⟨g, n * 5, none⟩ = some (.int .i64 (l[n].ino : Nat)) ∧ w.cell? ⟨g, n * 5 + 1, none⟩ = some (.int .i64 (l[n].kind : Nat)) ∧ w.cell? ⟨g, n * 5 + 2, none⟩ = some (.int .i64 l[n].mode) ∧ w.cell? ⟨g, n * 5 + 3, none⟩ = some (.int .i64 (l[n].links : Nat)) ∧ w.cell? ⟨g, n * 5 + 4, none⟩ = some (.int .i64 (l[n].size : Nat)) := by
  have e : ∀ j, j < 5 → w.cell? ⟨g, n * 5 + j, none⟩ = (staC l[n])[j]? := fun j hj => by
    rw [h.cell]; exact flat_get staC 5 staC_length l n j hn hj
  exact ⟨e 0 (by omega), e 1 (by omega), e 2 (by omega), e 3 (by omega), e 4 (by omega)⟩
theorem _root_.Go.Qm.Arr.stat {w : World} {g : Nat} {l : List Sta} (h : Arr w g 54 (l.flatMap staC)) {n : Nat} (hn : n < l.length) (x : Sta) :
    Arr (((((w.setCell ⟨g, n * 5, none⟩ (.int .i64 (x.ino : Nat))).setCell ⟨g, n * 5 + 1, none⟩ (.int .i64 (x.kind : Nat))).setCell ⟨g, n * 5 + 2, none⟩ (.int .i64 x.mode)).setCell ⟨g, n * 5 + 3, none⟩ (.int .i64 (x.links : Nat))).setCell ⟨g, n * 5 + 4, none⟩ (.int .i64 (x.size : Nat))) g 54 ((l.set n x).flatMap staC) := by
  have stp : ∀ (W : World) (l : List Sta) (j : Nat) (y : Sta) (v : Value), Arr W g 54 (l.flatMap staC) → n < l.length → j < 5 → (∀ hn : n < l.length, staC y = (staC l[n]).set j v) → Arr (W.setCell ⟨g, n * 5 + j, none⟩ v) g 54 ((l.set n y).flatMap staC) := by
    intro W l j y v hA hn hj hx
    have A := hA.set (n * 5 + j) v
    rw [flat_set staC_length l n j hn hj y v (hx hn)] at A
    exact A
  have h0 := stp w l 0 { l[n] with ino := x.ino } (.int .i64 (x.ino : Nat)) h hn (by omega) (fun _ => rfl)
  have h1 := stp _ _ 1 { l[n] with ino := x.ino, kind := x.kind } (.int .i64 (x.kind : Nat)) h0 (by simpa using hn) (by omega) (fun _ => by rw [List.getElem_set_self]; rfl)
  rw [List.set_set] at h1
  have h2 := stp _ _ 2 { l[n] with ino := x.ino, kind := x.kind, mode := x.mode } (.int .i64 x.mode) h1 (by simpa using hn) (by omega) (fun _ => by rw [List.getElem_set_self]; rfl)
  rw [List.set_set] at h2
  have h3 := stp _ _ 3 { l[n] with ino := x.ino, kind := x.kind, mode := x.mode, links := x.links } (.int .i64 (x.links : Nat)) h2 (by simpa using hn) (by omega) (fun _ => by rw [List.getElem_set_self]; rfl)
  rw [List.set_set] at h3
  have h4 := stp _ _ 4 x (.int .i64 (x.size : Nat)) h3 (by simpa using hn) (by omega) (fun _ => by rw [List.getElem_set_self]; rfl)
  rw [List.set_set, Nat.add_zero] at h4
  exact h4
theorem views_same {u : Nat} {hs : List Hd} {s : Stt} (h1 : s.u = u) (h2 : s.hs = hs) : viewsF s.u s.hs = viewsF u hs := by rw [h1, h2]
end Go.Proofs.Qxb6500767a
