/- blast: the circuit's calls, as a blaster makes them. -/
import Derived.Test.Qxb6500772aDb
namespace Go.Proofs.Qxb6500772a
open Go.RowKit Go.Qm
set_option linter.unusedVariables false
set_option linter.unusedSimpArgs false
/-- A call answers a bit. -/
def RB (B : Nat) (X P : Nat → Prop) (gB : Nat) (cv : Value) (gc : Nat) (gv : Value) (w : World) (G : List Gate) (n k : Nat) (f : BF) (e : Ending) (w' : World) : Prop :=
  ∃ gv' G' b, e = .returned (.int .i64 ((b : Nat) : Int)) ∧ BS B X P w' gB cv gc gv' G' n ∧ Stp (fpC gc gv) (fpC gc gv') w w' ∧ Ext k G G' ∧ Bt G' b f
/-- A call answers a word. -/
def RV (B : Nat) (X P : Nat → Prop) (gB : Nat) (cv : Value) (gc : Nat) (gv : Value) (w : World) (G : List Gate) (n k wd : Nat) (f : WF) (e : Ending) (w' : World) : Prop :=
  ∃ gv' G' l a c, e = .returned (.slice a wd c) ∧ BS B X P w' gB cv gc gv' G' n ∧ Stp (fpC gc gv) (fpC gc gv') w w' ∧ Ext k G G' ∧ WO (fpX gc gv' X) w' (.slice a wd c) l ∧ Wv G' l wd f
section
variable {B : Nat} {X P : Nat → Prop} {w : World} {gB : Nat} {cv : Value} {gc : Nat} {gv : Value} {G : List Gate} {n : Nat}
theorem RB.of (h : BS B X P w gB cv gc gv G n) {k : Nat} {f : BF} {e : Ending} {w' : World} (r : RetB B X gc gv w G n k f e w') : RB B X P gB cv gc gv w G n k f e w' := by
  obtain ⟨gv', G', b, h1, h2, h3, h4, h5⟩ := r
  exact ⟨gv', G', b, h1, h.step h2 h3 h4, h3, h4, h5⟩
theorem RV.of (h : BS B X P w gB cv gc gv G n) {k wd : Nat} {f : WF} {e : Ending} {w' : World} (r : RetV B X gc gv w G n k wd f e w') : RV B X P gB cv gc gv w G n k wd f e w' := by
  obtain ⟨gv', G', l, v, h1, h2, h3, h4, h5, h6⟩ := r
  obtain ⟨a, c, hv, -, -⟩ := h5.form
  rw [h6.len] at hv
  subst hv
  exact ⟨gv', G', l, a, c, h1, h.step h2 h3 h4, h3, h4, h5, h6⟩
/-- The words' own shape. -/
theorem WO.sh {X : Nat → Prop} {v : Value} {l : List Nat} {wd : Nat} {f : WF} (h : WO (fpX gc gv X) w v l) (k : Wv G l wd f) : ∃ a c, v = .slice a wd c ∧ wd ≤ c ∧ c ≤ maxLen := by
  obtain ⟨a, c, hv, h1, h2⟩ := h.form
  rw [k.len] at hv h1
  exact ⟨a, c, hv, h1, h2⟩
theorem not_k (h : BS B X P w gB cv gc gv G n) {a : Nat} {f : BF} (ha : Bt G a f) (hl : G.length ≤ 700000000) : Calls Try.prog 70 #[.pointer (some ⟨gc, 0, none⟩), .int .i64 (a : Nat)] w fun e w' => RB B X P gB cv gc gv w G n 1 (fun i => !f i) e w' := (not_s h.cc h.wf ha (by omega)).mono fun _ _ r => RB.of h r
theorem and_k (h : BS B X P w gB cv gc gv G n) {a b : Nat} {f g : BF} (ha : Bt G a f) (hb : Bt G b g) (hl : G.length ≤ 700000000) : Calls Try.prog 31 #[.pointer (some ⟨gc, 0, none⟩), .int .i64 (a : Nat), .int .i64 (b : Nat)] w fun e w' => RB B X P gB cv gc gv w G n 1 (fun i => f i && g i) e w' := (and_s h.cc h.wf ha hb (by omega)).mono fun _ _ r => RB.of h r
theorem true_k (h : BS B X P w gB cv gc gv G n)  (hl : G.length ≤ 700000000) : Calls Try.prog 72 #[.pointer (some ⟨gc, 0, none⟩)] w fun e w' => RB B X P gB cv gc gv w G n 1 (fun _ => true) e w' := (true_s h.cc h.wf (by omega)).mono fun _ _ r => RB.of h r
theorem or_k (h : BS B X P w gB cv gc gv G n) {a b : Nat} {f g : BF} (ha : Bt G a f) (hb : Bt G b g) (hl : G.length ≤ 700000000) : Calls Try.prog 78 #[.pointer (some ⟨gB, 0, none⟩), .int .i64 (a : Nat), .int .i64 (b : Nat)] w fun e w' => RB B X P gB cv gc gv w G n 4 (fun i => f i || g i) e w' := (or_b h ha hb (by omega)).mono fun _ _ r => RB.of h r
theorem eq_k (h : BS B X P w gB cv gc gv G n) {xv yv : Value} {x y : List Nat} {wd : Nat} {f g : WF} (hx : WO (fpX gc gv X) w xv x) (vx : Wv G x wd f) (hy : WO (fpX gc gv X) w yv y) (vy : Wv G y wd g)(h1 : 1 ≤ wd) (h2 : wd ≤ 64) (hl : G.length ≤ 700000000) : Calls Try.prog 71 #[.pointer (some ⟨gc, 0, none⟩), xv, yv] w fun e w' => RB B X P gB cv gc gv w G n 65 (fun i => decide (f i = g i)) e w' := (eqW_c h.cc h.wf h.hX hx vx hy vy h1 h2 (by omega)).mono fun _ _ r => RB.of h r
theorem slt_k (h : BS B X P w gB cv gc gv G n) {xv yv : Value} {x y : List Nat} {wd : Nat} {f g : WF} (hx : WO (fpX gc gv X) w xv x) (vx : Wv G x wd f) (hy : WO (fpX gc gv X) w yv y) (vy : Wv G y wd g)(h1 : 1 ≤ wd) (h2 : wd ≤ 64) (hl : G.length ≤ 700000000) : Calls Try.prog 73 #[.pointer (some ⟨gc, 0, none⟩), xv, yv] w fun e w' => RB B X P gB cv gc gv w G n 65 (fun i => decide (sgn (f i) wd < sgn (g i) wd)) e w' := (sltW_c h.cc h.wf h.hX hx vx hy vy h1 h2 (by omega)).mono fun _ _ r => RB.of h r
theorem const_k (h : BS B X P w gB cv gc gv G n) (v0 : Nat) (hv : v0 < 2 ^ 64) (k0 : Nat) (hk0 : k0 ≤ 64) (hl : G.length ≤ 700000000) : Calls Try.prog 66 #[.pointer (some ⟨gc, 0, none⟩), .int .u64 (v0 : Nat), .int .i64 (k0 : Nat)] w fun e w' => RV B X P gB cv gc gv w G n 64 k0 (fun _ => v0 % 2 ^ k0) e w' := (constW_c h.cc h.wf h.hX v0 hv k0 hk0 (by omega)).mono fun _ _ r => RV.of h r
theorem muxW_k (h : BS B X P w gB cv gc gv G n) {s : Nat} {c : BF} (hs : Bt G s c) {xv yv : Value} {x y : List Nat} {wd : Nat} {f g : WF} (hx : WO (fpX gc gv X) w xv x) (vx : Wv G x wd f) (hy : WO (fpX gc gv X) w yv y) (vy : Wv G y wd g)(h2 : wd ≤ 64) (hl : G.length ≤ 700000000) : Calls Try.prog 89 #[.pointer (some ⟨gc, 0, none⟩), .int .i64 (s : Nat), xv, yv] w fun e w' => RV B X P gB cv gc gv w G n 448 wd (fun i => if c i then f i else g i) e w' := (muxW_c h.cc h.wf h.hX hs hx vx hy vy h2 (by omega)).mono fun _ _ r => RV.of h r
theorem mux_k (h : BS B X P w gB cv gc gv G n) {s : Nat} {c : BF} (hs : Bt G s c) {xv yv : Value} {x y : List Nat} {wd : Nat} {f g : WF} (hx : WO (fpX gc gv X) w xv x) (vx : Wv G x wd f) (hy : WO (fpX gc gv X) w yv y) (vy : Wv G y wd g)(h2 : wd ≤ 64) (hl : G.length ≤ 700000000) : Calls Try.prog 77 #[.pointer (some ⟨gB, 0, none⟩), .int .i64 (s : Nat), xv, yv] w fun e w' => RV B X P gB cv gc gv w G n 448 wd (fun i => if c i then f i else g i) e w' := (mux_b h hs hx vx hy vy h2 (by omega)).mono fun _ _ r => RV.of h r
theorem max_k (h : BS B X P w gB cv gc gv G n) {wd : Nat} (h1 : 1 ≤ wd) (h2 : wd ≤ 64) (hl : G.length ≤ 700000000) : Calls Try.prog 90 #[.pointer (some ⟨gB, 0, none⟩), .int .i64 (wd : Nat)] w fun e w' => RV B X P gB cv gc gv w G n 64 wd (fun _ => (2 ^ wd - 1) / 2) e w' := (max_b h h1 h2 (by omega)).mono fun _ _ r => RV.of h r
theorem notW_k (h : BS B X P w gB cv gc gv G n) {xv : Value} {x : List Nat} {wd : Nat} {f : WF} (hx : WO (fpX gc gv X) w xv x) (vx : Wv G x wd f)(h2 : wd ≤ 64) (hl : G.length ≤ 700000000) : Calls Try.prog 94 #[.pointer (some ⟨gc, 0, none⟩), xv] w fun e w' => RV B X P gB cv gc gv w G n 64 wd (fun i => 2 ^ wd - 1 - f i) e w' := (notW_c h.cc h.wf h.hX hx vx h2 (by omega)).mono fun _ _ r => RV.of h r
theorem andW_k (h : BS B X P w gB cv gc gv G n) {xv yv : Value} {x y : List Nat} {wd : Nat} {f g : WF} (hx : WO (fpX gc gv X) w xv x) (vx : Wv G x wd f) (hy : WO (fpX gc gv X) w yv y) (vy : Wv G y wd g)(h2 : wd ≤ 64) (hl : G.length ≤ 700000000) : Calls Try.prog 96 #[.pointer (some ⟨gc, 0, none⟩), xv, yv] w fun e w' => RV B X P gB cv gc gv w G n 64 wd (fun i => f i &&& g i) e w' := (andW_c h.cc h.wf h.hX hx vx hy vy h2 (by omega)).mono fun _ _ r => RV.of h r
theorem add_k (h : BS B X P w gB cv gc gv G n) {xv yv : Value} {x y : List Nat} {wd : Nat} {f g : WF} (hx : WO (fpX gc gv X) w xv x) (vx : Wv G x wd f) (hy : WO (fpX gc gv X) w yv y) (vy : Wv G y wd g)(h1 : 1 ≤ wd) (h2 : wd ≤ 64) (hl : G.length ≤ 700000000) : Calls Try.prog 88 #[.pointer (some ⟨gc, 0, none⟩), xv, yv] w fun e w' => RV B X P gB cv gc gv w G n 65 wd (fun i => wop 0 (f i) (g i) wd) e w' := (addW_c h.cc h.wf h.hX hx vx hy vy h1 h2 (by omega)).mono fun _ _ r => RV.of h r
theorem sub_k (h : BS B X P w gB cv gc gv G n) {xv yv : Value} {x y : List Nat} {wd : Nat} {f g : WF} (hx : WO (fpX gc gv X) w xv x) (vx : Wv G x wd f) (hy : WO (fpX gc gv X) w yv y) (vy : Wv G y wd g)(h1 : 1 ≤ wd) (h2 : wd ≤ 64) (hl : G.length ≤ 700000000) : Calls Try.prog 95 #[.pointer (some ⟨gc, 0, none⟩), xv, yv] w fun e w' => RV B X P gB cv gc gv w G n 65 wd (fun i => wop 1 (f i) (g i) wd) e w' := (subW_c h.cc h.wf h.hX hx vx hy vy h1 h2 (by omega)).mono fun _ _ r => RV.of h r
theorem mul_k (h : BS B X P w gB cv gc gv G n) {xv yv : Value} {x y : List Nat} {wd : Nat} {f g : WF} (hx : WO (fpX gc gv X) w xv x) (vx : Wv G x wd f) (hy : WO (fpX gc gv X) w yv y) (vy : Wv G y wd g)(h1 : 1 ≤ wd) (h2 : wd ≤ 64) (hl : G.length ≤ 700000000) : Calls Try.prog 97 #[.pointer (some ⟨gc, 0, none⟩), xv, yv] w fun e w' => RV B X P gB cv gc gv w G n 65 wd (fun i => wop 2 (f i) (g i) wd) e w' := (mulW_c h.cc h.wf h.hX hx vx hy vy h1 h2 (by omega)).mono fun _ _ r => RV.of h r
theorem div_k (h : BS B X P w gB cv gc gv G n) {xv yv : Value} {x y : List Nat} {wd : Nat} {f g : WF} (hx : WO (fpX gc gv X) w xv x) (vx : Wv G x wd f) (hy : WO (fpX gc gv X) w yv y) (vy : Wv G y wd g)(h1 : 1 ≤ wd) (h2 : wd ≤ 64) (hl : G.length ≤ 700000000) : Calls Try.prog 98 #[.pointer (some ⟨gc, 0, none⟩), xv, yv] w fun e w' => RV B X P gB cv gc gv w G n 65 wd (fun i => wop 3 (f i) (g i) wd) e w' := (divW_c h.cc h.wf h.hX hx vx hy vy h1 h2 (by omega)).mono fun _ _ r => RV.of h r
theorem rem_k (h : BS B X P w gB cv gc gv G n) {xv yv : Value} {x y : List Nat} {wd : Nat} {f g : WF} (hx : WO (fpX gc gv X) w xv x) (vx : Wv G x wd f) (hy : WO (fpX gc gv X) w yv y) (vy : Wv G y wd g)(h1 : 1 ≤ wd) (h2 : wd ≤ 64) (hl : G.length ≤ 700000000) : Calls Try.prog 99 #[.pointer (some ⟨gc, 0, none⟩), xv, yv] w fun e w' => RV B X P gB cv gc gv w G n 65 wd (fun i => wop 4 (f i) (g i) wd) e w' := (remW_c h.cc h.wf h.hX hx vx hy vy h1 h2 (by omega)).mono fun _ _ r => RV.of h r
theorem const0_k (h : BS B X P w gB cv gc gv G n) (k0 : Nat) (h1 : 1 ≤ k0) (hk0 : k0 ≤ 64) (hl : G.length ≤ 700000000) : Calls Try.prog 66 #[.pointer (some ⟨gc, 0, none⟩), .int .u64 0, .int .i64 (k0 : Nat)] w fun e w' => RV B X P gB cv gc gv w G n 64 k0 (fun _ => 0) e w' := by
  have h9 := const_k h 0 (by decide) k0 hk0 hl
  rw [Nat.mod_eq_of_lt (show 0 < 2 ^ k0 from Nat.lt_of_lt_of_le (by decide) (Nat.pow_le_pow_right (show 0 < 2 by decide) h1))] at h9
  exact h9
theorem const1_k (h : BS B X P w gB cv gc gv G n) (k0 : Nat) (h1 : 1 ≤ k0) (hk0 : k0 ≤ 64) (hl : G.length ≤ 700000000) : Calls Try.prog 66 #[.pointer (some ⟨gc, 0, none⟩), .int .u64 1, .int .i64 (k0 : Nat)] w fun e w' => RV B X P gB cv gc gv w G n 64 k0 (fun _ => 1) e w' := by
  have h9 := const_k h 1 (by decide) k0 hk0 hl
  rw [Nat.mod_eq_of_lt (show 1 < 2 ^ k0 from Nat.lt_of_lt_of_le (by decide) (Nat.pow_le_pow_right (show 0 < 2 by decide) h1))] at h9
  exact h9
end
end Go.Proofs.Qxb6500772a
