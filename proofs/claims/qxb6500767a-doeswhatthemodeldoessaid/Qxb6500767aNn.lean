/- unionvfsm: open, the plain part. -/
import Derived.Test.Qxb6500767aNl
namespace Go.Proofs.Qxb6500767a
open Go.RowKit Go.Qm
set_option linter.unusedVariables false
set_option linter.unusedSimpArgs false
theorem nob_bt (f m : Int) : nob f m = !bt f m := by unfold bt; simp
theorem chk_bt {f m : Int} (h0 : 0 ≤ f) (h1 : f ≤ 127) (m1 : -9223372036854775808 ≤ m) (m2 : m ≤ 9223372036854775807) :
    chkB f m = ((!bt f 1 && !bt f 2) || ((bt f 8 && !bt f 4) || (((bt f 16 || bt f 32) && !bt f 2) || ((bt f 64 && (bt f 2 || bt f 4)) || (bt f 4 && !mdB m))))) := by
  have R := flR h0 h1
  unfold chkB
  rw [fl_ok (by omega) (by omega), R.n3, R.n48, R.n6, vm_md m1 m2, decide_eq_true h0, decide_eq_true h1]
  simp only [nob_bt]
  cases bt f 1 <;> cases bt f 2 <;> cases bt f 4 <;> cases bt f 8 <;> cases bt f 16 <;> cases bt f 32 <;> cases bt f 64 <;> cases mdB m <;> rfl
theorem chk_out {f m : Int} (h : f < 0 ∨ 127 < f) (h1 : -9223372036854775808 ≤ f) (h2 : f ≤ 9223372036854775807) : chkB f m = true := by
  unfold chkB
  rw [fl_ok h1 h2]
  have : (decide (0 ≤ f) && decide (f ≤ 127)) = false := by
    rcases h with a | a
    · rw [decide_eq_false (by omega)]; rfl
    · rw [decide_eq_false (p := f ≤ 127) (by omega), Bool.and_false]
  rw [this]
  rfl
theorem OR.full {u : Nat} {hs : List Hd} {O : List Nat} (r : OR u hs O) (h : lowN u = none) : O.length = 32 := by
  have h1 : O.length ≤ 32 := by
    have h1 := List.Nodup.length_le_of_subset (l₂ := List.range 32) r.nd (fun n hn => List.mem_range.2 ((r.mem n).1 hn).1)
    rw [List.length_range] at h1
    exact h1
  have h2 : 32 ≤ O.length := by
    have h3 := List.Nodup.length_le_of_subset (l₁ := List.range 32) (l₂ := O) List.nodup_range (fun n hn => by
      have hn' := List.mem_range.1 hn
      refine (r.mem n).2 ⟨hn', ?_⟩
      unfold lowN at h
      rw [List.find?_eq_none] at h
      simpa using h n hn)
    rw [List.length_range] at h3
    exact h3
  omega
theorem OR.part {u : Nat} {hs : List Hd} {O : List Nat} (r : OR u hs O) {n : Nat} (h : lowN u = some n) : O.length < 32 ∧ n < 32 ∧ u.testBit n = false ∧ n ∉ O ∧ ∀ j, j < n → u.testBit j = true := by
  unfold lowN at h
  rw [List.find?_range_eq_some] at h
  obtain ⟨h1, h2, h3⟩ := h
  have hb : u.testBit n = false := by simpa using h1
  have hn : n < 32 := by simpa using h2
  have hO : n ∉ O := fun a => by have := ((r.mem n).1 a).2; rw [hb] at this; simp at this
  refine ⟨?_, hn, hb, hO, fun j hj => by simpa using h3 j hj⟩
  have h4 := List.Nodup.length_le_of_subset (l₁ := n :: O) (l₂ := List.range 32) (List.nodup_cons.2 ⟨hO, r.nd⟩) (fun m hm => by
    rcases List.mem_cons.1 hm with e | e
    · rw [e]; exact List.mem_range.2 hn
    · exact List.mem_range.2 ((r.mem m).1 e).1)
  rw [List.length_range, List.length_cons] at h4
  omega
theorem res_zero (T : List Nd) (nd : Nat) (hu : usedB T ≤ 512) : (resT T nd 0).1 = T.set nd { at' T nd with data := [] } := by
  unfold resT
  rw [if_neg (by have : blk 0 = 0 := rfl; rw [this]; omega)]
  have : rszD (at' T nd).data 0 = [] := by unfold rszD; simp
  rw [this]
theorem OR.open {u : Nat} {hs : List Hd} {O : List Nat} (r : OR u hs O) {n : Nat} (hn : n < 32) (hO : n ∉ O) (x : Hd) : OR (u ||| 2 ^ n) (hs.set n x) (O ++ [n]) := by
  refine ⟨?_, fun m => ?_, by simpa using r.hl⟩
  · rw [List.nodup_append]
    refine ⟨r.nd, by simp, fun a ha b hb => ?_⟩
    rw [List.mem_singleton.1 hb]
    exact fun e => hO (e ▸ ha)
  · rw [List.mem_append, List.mem_singleton, r.mem, Nat.testBit_or, Nat.testBit_two_pow]
    constructor
    · rintro (⟨a, b⟩ | rfl)
      · exact ⟨a, by rw [b]; rfl⟩
      · exact ⟨hn, by simp⟩
    · rintro ⟨a, b⟩
      rcases Bool.or_eq_true_iff.1 b with c | c
      · exact Or.inl ⟨a, c⟩
      · exact Or.inr (of_decide_eq_true c).symm
theorem rows_open {hs : List Hd} {O : List Nat} {n : Nat} (hn : n < hs.length) (hO : n ∉ O) (x : Hd) : rowsOf (hs.set n x) (O ++ [n]) = rowsOf hs O ++ [(n, x)] := by
  unfold rowsOf
  rw [List.map_append]
  congr 1
  · apply List.map_congr_left
    intro m hm
    have e1 : n ≠ m := fun e => hO (by rw [e]; exact hm)
    rw [hat_set_ne e1]
  · simp [hat_set hn]
theorem mop_open {f : Int} (h0 : 0 ≤ f) (h1 : f ≤ 127) (n nd : Nat) (d : Bool) : mopC (n, ⟨nd, bits .and .i64 f 35, d, 0, []⟩) = [.int .i64 (n : Nat), .int .i64 (nd : Nat), .bool (bt f 1), .bool (bt f 2), .bool (bt f 32), .int .i64 0, str []] := by
  have R := flR h0 h1
  unfold mopC
  simp only [R.b1, R.b2, R.b32]
  rfl
/-- What is left to do once the node is there. -/
def Tail (u : Nat) (hs : List Hd) (T : List Nd) (path : List UInt8) (fl mode : Int) (h : Nat) (T2 : List Nd) (nd : Nat) : Prop := opF u hs T path fl mode = finO u hs h fl T2 nd ∧ nd < T2.length ∧ (at' T2 nd).opens ≤ 1000
theorem tail_make {k u : Nat} {hs : List Hd} {T : List Nd} (si : SI k u hs T) {path : List UInt8} {fl mode : Int} {h : Nat} (hc : chkF fl mode = 0) (hl : lowN u = some h) (h6 : (pathF T path true).2 = 6) (h4 : bt fl 4 = true) :
    ((makeT T path 1 mode []).2.2 ≠ 0 → opF u hs T path fl mode = (u, hs, (makeT T path 1 mode []).1, -1, (makeT T path 1 mode []).2.2)) ∧ ((makeT T path 1 mode []).2.2 = 0 → Tail u hs T path fl mode h (makeT T path 1 mode []).1 (makeT T path 1 mode []).2.1) := by
  have h4' : nob fl 4 = false := by rw [nob_bt, h4]; rfl
  have e : opF u hs T path fl mode = (if (makeT T path 1 mode []).2.2 ≠ 0 then (u, hs, (makeT T path 1 mode []).1, -1, (makeT T path 1 mode []).2.2) else finO u hs h fl (makeT T path 1 mode []).1 (makeT T path 1 mode []).2.1) := by
    unfold opF
    rw [if_neg (by rw [hc]; simp), hl]
    simp only
    rw [if_pos ⟨h6, h4'⟩]
  refine ⟨fun a => by rw [e, if_pos a], fun a => ?_⟩
  have M := make_ti si.t path (kd := 1) (by decide) mode (data := []) (fun a => by cases a)
  obtain ⟨m1, m2, m3, m4, m5⟩ := M.2.2.2.2 a
  refine ⟨by rw [e, if_neg (by rw [a]; simp)], ?_, ?_⟩
  · rw [m1]; omega
  · rw [m1, m3]; omega
theorem op_path {u : Nat} {hs : List Hd} {T : List Nd} {path : List UInt8} {fl mode : Int} {h : Nat} (hc : chkF fl mode = 0) (hl : lowN u = some h) (h0 : (pathF T path true).2 ≠ 0) (h6 : ¬ ((pathF T path true).2 = 6 ∧ bt fl 4 = true)) :
    opF u hs T path fl mode = (u, hs, T, -1, (pathF T path true).2) := by
  unfold opF
  rw [if_neg (by rw [hc]; simp), hl]
  simp only
  rw [if_neg (fun a => h6 ⟨a.1, by have := a.2; rw [nob_bt] at this; simpa using this⟩), if_pos h0]
theorem op_adm {u : Nat} {hs : List Hd} {T : List Nd} {path : List UInt8} {fl mode : Int} {h : Nat} (hc : chkF fl mode = 0) (hl : lowN u = some h) (h0 : (pathF T path true).2 = 0) (ha : admF (at' T (pathF T path true).1) fl ≠ 0) :
    opF u hs T path fl mode = (u, hs, T, -1, admF (at' T (pathF T path true).1) fl) := by
  unfold opF
  rw [if_neg (by rw [hc]; simp), hl]
  simp only
  rw [if_neg (fun a => by rw [h0] at a; simp at a), if_neg (by rw [h0]; simp), if_pos ha]
theorem tail_path {k u : Nat} {hs : List Hd} {T : List Nd} (si : SI k u hs T) {path : List UInt8} {fl mode : Int} {h : Nat} (hc : chkF fl mode = 0) (hl : lowN u = some h) (h0 : (pathF T path true).2 = 0) (ha : admF (at' T (pathF T path true).1) fl = 0) :
    Tail u hs T path fl mode h (if bt fl 16 = true then T.set (pathF T path true).1 { at' T (pathF T path true).1 with data := [] } else T) (pathF T path true).1 := by
  have hi := si.t.lt (path_live si.t path true).1
  have e : opF u hs T path fl mode = finO u hs h fl (if nob fl 16 = false then (resT T (pathF T path true).1 0).1 else T) (pathF T path true).1 := by
    unfold opF
    rw [if_neg (by rw [hc]; simp), hl]
    simp only
    rw [if_neg (fun a => by rw [h0] at a; simp at a), if_neg (by rw [h0]; simp), if_neg (by rw [ha]; simp)]
  have e2 : (if nob fl 16 = false then (resT T (pathF T path true).1 0).1 else T) = (if bt fl 16 = true then T.set (pathF T path true).1 { at' T (pathF T path true).1 with data := [] } else T) := by
    rw [nob_bt]
    cases bt fl 16
    · rfl
    · exact res_zero T _ si.t.ub
  rw [e2] at e
  refine ⟨e, ?_, ?_⟩
  · split
    · rw [List.length_set]; exact hi
    · exact hi
  · have := si.h.olt (pathF T path true).1
    split
    · rw [at_set hi]; simp only; omega
    · omega
theorem op_chk {u : Nat} {hs : List Hd} {T : List Nd} {path : List UInt8} {fl mode : Int} (hc : chkB fl mode = true) : opF u hs T path fl mode = (u, hs, T, -1, 2) := by
  have e : chkF fl mode = 2 := by unfold chkF; rw [if_pos hc]
  unfold opF
  rw [if_pos (by rw [e]; decide), e]
theorem op_full {u : Nat} {hs : List Hd} {T : List Nd} {path : List UInt8} {fl mode : Int} (hc : chkF fl mode = 0) (hl : lowN u = none) : opF u hs T path fl mode = (u, hs, T, -1, 3) := by
  unfold opF
  rw [if_neg (by rw [hc]; simp), hl]
def admB (x : Nd) (f : Int) : Int := if bt f 8 = true then 10 else if decide (x.kind = 2) && bt f 2 then 8 else if !decide (x.kind = 2) && bt f 64 then 7 else if bt f 1 && !bt x.mode 256 then 11 else if bt f 2 && !bt x.mode 128 then 11 else 0
theorem adm_bt (x : Nd) (f : Int) : admF x f = admB x f := by
  unfold admF admB
  simp only [nob_bt]
  by_cases hk : x.kind = 2
  · simp only [hk]
    cases bt f 8 <;> cases bt f 2 <;> cases bt f 64 <;> cases bt f 1 <;> cases bt x.mode 256 <;> cases bt x.mode 128 <;> simp
  · simp only [hk, decide_false]
    cases bt f 8 <;> cases bt f 2 <;> cases bt f 64 <;> cases bt f 1 <;> cases bt x.mode 256 <;> cases bt x.mode 128 <;> simp [hk]
end Go.Proofs.Qxb6500767a
