/- unionvfs: getFile, validSize, validMode, checkFlags, lowestFree. -/
import Derived.Test.Qxb6500767aFa
namespace Go.Proofs.Qxb6500767a
open Go.RowKit Go.Qm
set_option linter.unusedVariables false
set_option linter.unusedSimpArgs false
attribute [local go_sem ↓] Go.wp_at_zero Go.wp_at_succ
def getFV (gf u : Nat) (hs : List Hd) (h need : Int) : Value := if getOK u hs h need = true then (if (hat hs h.toNat).dir then .tuple #[.pointer none, .int .i64 8] else .tuple #[.pointer (some ⟨gf, 2 + h.toNat * 5, none⟩), .int .i64 0]) else .tuple #[.pointer none, .int .i64 1]
theorem getOK_lt {u : Nat} {hs : List Hd} {h need : Int} (e : getOK u hs h need = true) : ∃ n : Nat, h = (n : Int) ∧ n < 32 ∧ u.testBit n = true := by
  unfold getOK opn at e
  simp only [Bool.and_eq_true, decide_eq_true_eq] at e
  exact ⟨h.toNat, by omega, by omega, e.1.2⟩
set_option maxRecDepth 3000 in
theorem getFile_c (gf gt u : Nat) (hs : List Hd) (h need : Int) (w : World) (hf : FSW w gf gt u hs) :
    Calls Try.prog 75 #[.pointer (some ⟨gf, 0, none⟩), .int .i64 h, .int .i64 need] w fun e w' => e = .returned (getFV gf u hs h need) ∧ w' = w := by
  have GC := get_c gf gt u hs h need w hf
  unfold getV at GC
  cases hok : getOK u hs h need with
  | false =>
    rw [if_neg (by rw [hok]; decide)] at GC
    have HV : Hid (getFV gf u hs h need = .tuple #[.pointer none, .int .i64 1]) := Hid.mk (by unfold getFV; rw [if_neg (by rw [hok]; decide)])
    generalize getFV gf u hs h need = V at *
    go_enter Try.func75, Try.ntmps75
    go_wp2_with fail
    refine GC.mono ?_
    rintro e w1 ⟨rfl, rfl⟩
    go_wp2_with fail
    go_ret2
    rw [HV.out]
    exact ⟨rfl, rfl⟩
  | true =>
    rw [if_pos hok] at GC
    obtain ⟨n, rfl, hn, -⟩ := getOK_lt hok
    obtain ⟨d0, d1, d2, d3, d4⟩ := hf.cell hn
    rw [Int.toNat_natCast] at GC
    cases hdr : (hat hs n).dir with
    | true =>
      have HV : Hid (getFV gf u hs (n : Int) need = .tuple #[.pointer none, .int .i64 8]) := Hid.mk (by unfold getFV; rw [if_pos hok, Int.toNat_natCast, hdr]; rfl)
      rw [hdr] at d2
      generalize getFV gf u hs (n : Int) need = V at *
      clear hok hdr
      go_enter Try.func75, Try.ntmps75
      go_wp2_with fail
      refine GC.mono ?_
      rintro e w1 ⟨rfl, rfl⟩
      go_wp2_with fail
      go_ret2
      rw [HV.out]
      exact ⟨rfl, rfl⟩
    | false =>
      have HV : Hid (getFV gf u hs (n : Int) need = .tuple #[.pointer (some ⟨gf, 2 + n * 5, none⟩), .int .i64 0]) := Hid.mk (by unfold getFV; rw [if_pos hok, Int.toNat_natCast, hdr]; rfl)
      rw [hdr] at d2
      generalize getFV gf u hs (n : Int) need = V at *
      clear hok hdr
      go_enter Try.func75, Try.ntmps75
      go_wp2_with fail
      refine GC.mono ?_
      rintro e w1 ⟨rfl, rfl⟩
      go_wp2_with fail
      go_ret2
      rw [HV.out]
      exact ⟨rfl, rfl⟩
def vsB (n : Int) : Bool := decide (0 ≤ n) && decide (n ≤ 1048576)
theorem validSize_c (n : Int) (w : World) : Calls Try.prog 76 #[.int .i64 n] w fun e w' => e = .returned (.bool (vsB n)) ∧ w' = w := by
  by_cases h : 0 ≤ n
  · have HV : Hid (vsB n = decide (n ≤ 1048576)) := Hid.mk (by unfold vsB; rw [decide_eq_true h]; rfl)
    have z : decide (0 ≤ n) = true := decide_eq_true h
    generalize vsB n = V at *
    go_enter Try.func76, Try.ntmps76
    go_wp2_with fail
    go_ret
    rw [HV.out]
    exact ⟨rfl, rfl⟩
  · have HV : Hid (vsB n = false) := Hid.mk (by unfold vsB; rw [decide_eq_false h]; rfl)
    have z : decide (0 ≤ n) = false := decide_eq_false h
    generalize vsB n = V at *
    go_enter Try.func76, Try.ntmps76
    go_wp2_with fail
    go_ret
    rw [HV.out]
    exact ⟨rfl, rfl⟩
def vmB (m : Int) : Bool := bits .andNot .i64 m 511 == 0
theorem validMode_c (m : Int) (w : World) : Calls Try.prog 86 #[.int .i64 m] w fun e w' => e = .returned (.bool (vmB m)) ∧ w' = w := by
  unfold vmB
  go_enter Try.func86, Try.ntmps86
  go_wp2
  go_ret
  exact ⟨rfl, rfl⟩
/-- None of the bits m is set. -/
def nob (f m : Int) : Bool := bits .and .i64 f m == 0
def chkB (f m : Int) : Bool := !(bits .andNot .i64 f 127 == 0) || (nob f 3 || ((!nob f 8 && nob f 4) || ((!nob f 48 && nob f 2) || ((!nob f 64 && !nob f 6) || (!nob f 4 && !vmB m)))))
def chkF (f m : Int) : Int := if chkB f m = true then 2 else 0
set_option maxRecDepth 3000 in
set_option maxHeartbeats 2000000 in
theorem checkFlags_c (f m : Int) (w : World) : Calls Try.prog 78 #[.int .i64 f, .int .i64 m] w fun e w' => e = .returned (.int .i64 (chkF f m)) ∧ w' = w := by
  have VM := fun W => validMode_c m W
  have HC : Hid (chkF f m = if chkB f m = true then 2 else 0) := Hid.mk rfl
  have HB : Hid (chkB f m = (!(bits .andNot .i64 f 127 == 0) || (nob f 3 || ((!nob f 8 && nob f 4) || ((!nob f 48 && nob f 2) || ((!nob f 64 && !nob f 6) || (!nob f 4 && !vmB m))))))) := Hid.mk rfl
  obtain ⟨b0, h0⟩ : ∃ b, b = (bits .andNot .i64 f 127 == 0) := ⟨_, rfl⟩
  obtain ⟨b3, h3⟩ : ∃ b, b = nob f 3 := ⟨_, rfl⟩
  obtain ⟨b8, h8⟩ : ∃ b, b = nob f 8 := ⟨_, rfl⟩
  obtain ⟨b4, h4⟩ : ∃ b, b = nob f 4 := ⟨_, rfl⟩
  obtain ⟨b48, h48⟩ : ∃ b, b = nob f 48 := ⟨_, rfl⟩
  obtain ⟨b2, h2⟩ : ∃ b, b = nob f 2 := ⟨_, rfl⟩
  obtain ⟨b64, h64⟩ : ∃ b, b = nob f 64 := ⟨_, rfl⟩
  obtain ⟨b6, h6⟩ : ∃ b, b = nob f 6 := ⟨_, rfl⟩
  obtain ⟨bv, hv⟩ : ∃ b, b = vmB m := ⟨_, rfl⟩
  rw [← h0, ← h3, ← h8, ← h4, ← h48, ← h2, ← h64, ← h6, ← hv] at HB
  rw [← hv] at VM
  unfold nob at h3 h8 h4 h48 h2 h64 h6
  have e0 : (bits .andNot .i64 f 127 != 0) = !b0 := by rw [h0]; rfl
  have e3 : (bits .and .i64 f 3 == 0) = b3 := h3.symm
  have f3 : (bits .and .i64 f 3 != 0) = !b3 := by rw [h3]; rfl
  have e8 : (bits .and .i64 f 8 == 0) = b8 := h8.symm
  have f8 : (bits .and .i64 f 8 != 0) = !b8 := by rw [h8]; rfl
  have e4 : (bits .and .i64 f 4 == 0) = b4 := h4.symm
  have f4 : (bits .and .i64 f 4 != 0) = !b4 := by rw [h4]; rfl
  have e48 : (bits .and .i64 f 48 == 0) = b48 := h48.symm
  have f48 : (bits .and .i64 f 48 != 0) = !b48 := by rw [h48]; rfl
  have e2 : (bits .and .i64 f 2 == 0) = b2 := h2.symm
  have f2 : (bits .and .i64 f 2 != 0) = !b2 := by rw [h2]; rfl
  have e64 : (bits .and .i64 f 64 == 0) = b64 := h64.symm
  have f64 : (bits .and .i64 f 64 != 0) = !b64 := by rw [h64]; rfl
  have e6 : (bits .and .i64 f 6 == 0) = b6 := h6.symm
  have f6 : (bits .and .i64 f 6 != 0) = !b6 := by rw [h6]; rfl
  clear h0 h3 h8 h4 h48 h2 h64 h6 hv
  generalize chkF f m = V at *
  generalize chkB f m = K at *
  cases b0 with
  | false =>
    have HV : Hid (V = 2) := Hid.mk (by rw [HC.out, HB.out]; simp)
    clear HC HB
    go_enter Try.func78, Try.ntmps78
    go_wp2_with fail
    go_ret
    rw [HV.out]
    exact ⟨rfl, rfl⟩
  | true =>
    cases b3 with
    | true =>
      have HV : Hid (V = 2) := Hid.mk (by rw [HC.out, HB.out]; simp)
      clear HC HB
      go_enter Try.func78, Try.ntmps78
      go_wp2_with fail
      go_ret
      rw [HV.out]
      exact ⟨rfl, rfl⟩
    | false =>
      cases b4 with
      | true =>
        cases b2 with
        | true =>
          cases b8 with
          | true =>
            cases b48 with
            | true =>
              cases b64 with
              | true =>
                have HV : Hid (V = 0) := Hid.mk (by rw [HC.out, HB.out]; simp)
                clear HC HB
                go_enter Try.func78, Try.ntmps78
                go_wp2_with fail
                go_ret
                rw [HV.out]
                exact ⟨rfl, rfl⟩
              | false =>
                cases b6 with
                | false =>
                  have HV : Hid (V = 2) := Hid.mk (by rw [HC.out, HB.out]; simp)
                  clear HC HB
                  go_enter Try.func78, Try.ntmps78
                  go_wp2_with fail
                  go_ret
                  rw [HV.out]
                  exact ⟨rfl, rfl⟩
                | true =>
                  have HV : Hid (V = 0) := Hid.mk (by rw [HC.out, HB.out]; simp)
                  clear HC HB
                  go_enter Try.func78, Try.ntmps78
                  go_wp2_with fail
                  go_ret
                  rw [HV.out]
                  exact ⟨rfl, rfl⟩
            | false =>
              have HV : Hid (V = 2) := Hid.mk (by rw [HC.out, HB.out]; simp)
              clear HC HB
              go_enter Try.func78, Try.ntmps78
              go_wp2_with fail
              go_ret
              rw [HV.out]
              exact ⟨rfl, rfl⟩
          | false =>
            have HV : Hid (V = 2) := Hid.mk (by rw [HC.out, HB.out]; simp)
            clear HC HB
            go_enter Try.func78, Try.ntmps78
            go_wp2_with fail
            go_ret
            rw [HV.out]
            exact ⟨rfl, rfl⟩
        | false =>
          cases b8 with
          | true =>
            cases b48 with
            | true =>
              cases b64 with
              | true =>
                have HV : Hid (V = 0) := Hid.mk (by rw [HC.out, HB.out]; simp)
                clear HC HB
                go_enter Try.func78, Try.ntmps78
                go_wp2_with fail
                go_ret
                rw [HV.out]
                exact ⟨rfl, rfl⟩
              | false =>
                cases b6 with
                | false =>
                  have HV : Hid (V = 2) := Hid.mk (by rw [HC.out, HB.out]; simp)
                  clear HC HB
                  go_enter Try.func78, Try.ntmps78
                  go_wp2_with fail
                  go_ret
                  rw [HV.out]
                  exact ⟨rfl, rfl⟩
                | true =>
                  have HV : Hid (V = 0) := Hid.mk (by rw [HC.out, HB.out]; simp)
                  clear HC HB
                  go_enter Try.func78, Try.ntmps78
                  go_wp2_with fail
                  go_ret
                  rw [HV.out]
                  exact ⟨rfl, rfl⟩
            | false =>
              cases b64 with
              | true =>
                have HV : Hid (V = 0) := Hid.mk (by rw [HC.out, HB.out]; simp)
                clear HC HB
                go_enter Try.func78, Try.ntmps78
                go_wp2_with fail
                go_ret
                rw [HV.out]
                exact ⟨rfl, rfl⟩
              | false =>
                cases b6 with
                | false =>
                  have HV : Hid (V = 2) := Hid.mk (by rw [HC.out, HB.out]; simp)
                  clear HC HB
                  go_enter Try.func78, Try.ntmps78
                  go_wp2_with fail
                  go_ret
                  rw [HV.out]
                  exact ⟨rfl, rfl⟩
                | true =>
                  have HV : Hid (V = 0) := Hid.mk (by rw [HC.out, HB.out]; simp)
                  clear HC HB
                  go_enter Try.func78, Try.ntmps78
                  go_wp2_with fail
                  go_ret
                  rw [HV.out]
                  exact ⟨rfl, rfl⟩
          | false =>
            have HV : Hid (V = 2) := Hid.mk (by rw [HC.out, HB.out]; simp)
            clear HC HB
            go_enter Try.func78, Try.ntmps78
            go_wp2_with fail
            go_ret
            rw [HV.out]
            exact ⟨rfl, rfl⟩
      | false =>
        cases b2 with
        | true =>
          cases b8 with
          | true =>
            cases b48 with
            | true =>
              cases b64 with
              | true =>
                cases bv with
                | true =>
                  have HV : Hid (V = 0) := Hid.mk (by rw [HC.out, HB.out]; simp)
                  clear HC HB
                  go_enter Try.func78, Try.ntmps78
                  go_wp2_with fail
                  refine (VM _).mono ?_
                  rintro e w1 ⟨rfl, rfl⟩
                  go_wp2_with fail
                  go_ret
                  rw [HV.out]
                  exact ⟨rfl, rfl⟩
                | false =>
                  have HV : Hid (V = 2) := Hid.mk (by rw [HC.out, HB.out]; simp)
                  clear HC HB
                  go_enter Try.func78, Try.ntmps78
                  go_wp2_with fail
                  refine (VM _).mono ?_
                  rintro e w1 ⟨rfl, rfl⟩
                  go_wp2_with fail
                  go_ret
                  rw [HV.out]
                  exact ⟨rfl, rfl⟩
              | false =>
                cases b6 with
                | false =>
                  have HV : Hid (V = 2) := Hid.mk (by rw [HC.out, HB.out]; simp)
                  clear HC HB
                  go_enter Try.func78, Try.ntmps78
                  go_wp2_with fail
                  go_ret
                  rw [HV.out]
                  exact ⟨rfl, rfl⟩
                | true =>
                  cases bv with
                  | true =>
                    have HV : Hid (V = 0) := Hid.mk (by rw [HC.out, HB.out]; simp)
                    clear HC HB
                    go_enter Try.func78, Try.ntmps78
                    go_wp2_with fail
                    refine (VM _).mono ?_
                    rintro e w1 ⟨rfl, rfl⟩
                    go_wp2_with fail
                    go_ret
                    rw [HV.out]
                    exact ⟨rfl, rfl⟩
                  | false =>
                    have HV : Hid (V = 2) := Hid.mk (by rw [HC.out, HB.out]; simp)
                    clear HC HB
                    go_enter Try.func78, Try.ntmps78
                    go_wp2_with fail
                    refine (VM _).mono ?_
                    rintro e w1 ⟨rfl, rfl⟩
                    go_wp2_with fail
                    go_ret
                    rw [HV.out]
                    exact ⟨rfl, rfl⟩
            | false =>
              have HV : Hid (V = 2) := Hid.mk (by rw [HC.out, HB.out]; simp)
              clear HC HB
              go_enter Try.func78, Try.ntmps78
              go_wp2_with fail
              go_ret
              rw [HV.out]
              exact ⟨rfl, rfl⟩
          | false =>
            cases b48 with
            | true =>
              cases b64 with
              | true =>
                cases bv with
                | true =>
                  have HV : Hid (V = 0) := Hid.mk (by rw [HC.out, HB.out]; simp)
                  clear HC HB
                  go_enter Try.func78, Try.ntmps78
                  go_wp2_with fail
                  refine (VM _).mono ?_
                  rintro e w1 ⟨rfl, rfl⟩
                  go_wp2_with fail
                  go_ret
                  rw [HV.out]
                  exact ⟨rfl, rfl⟩
                | false =>
                  have HV : Hid (V = 2) := Hid.mk (by rw [HC.out, HB.out]; simp)
                  clear HC HB
                  go_enter Try.func78, Try.ntmps78
                  go_wp2_with fail
                  refine (VM _).mono ?_
                  rintro e w1 ⟨rfl, rfl⟩
                  go_wp2_with fail
                  go_ret
                  rw [HV.out]
                  exact ⟨rfl, rfl⟩
              | false =>
                cases b6 with
                | false =>
                  have HV : Hid (V = 2) := Hid.mk (by rw [HC.out, HB.out]; simp)
                  clear HC HB
                  go_enter Try.func78, Try.ntmps78
                  go_wp2_with fail
                  go_ret
                  rw [HV.out]
                  exact ⟨rfl, rfl⟩
                | true =>
                  cases bv with
                  | true =>
                    have HV : Hid (V = 0) := Hid.mk (by rw [HC.out, HB.out]; simp)
                    clear HC HB
                    go_enter Try.func78, Try.ntmps78
                    go_wp2_with fail
                    refine (VM _).mono ?_
                    rintro e w1 ⟨rfl, rfl⟩
                    go_wp2_with fail
                    go_ret
                    rw [HV.out]
                    exact ⟨rfl, rfl⟩
                  | false =>
                    have HV : Hid (V = 2) := Hid.mk (by rw [HC.out, HB.out]; simp)
                    clear HC HB
                    go_enter Try.func78, Try.ntmps78
                    go_wp2_with fail
                    refine (VM _).mono ?_
                    rintro e w1 ⟨rfl, rfl⟩
                    go_wp2_with fail
                    go_ret
                    rw [HV.out]
                    exact ⟨rfl, rfl⟩
            | false =>
              have HV : Hid (V = 2) := Hid.mk (by rw [HC.out, HB.out]; simp)
              clear HC HB
              go_enter Try.func78, Try.ntmps78
              go_wp2_with fail
              go_ret
              rw [HV.out]
              exact ⟨rfl, rfl⟩
        | false =>
          cases b8 with
          | true =>
            cases b48 with
            | true =>
              cases b64 with
              | true =>
                cases bv with
                | true =>
                  have HV : Hid (V = 0) := Hid.mk (by rw [HC.out, HB.out]; simp)
                  clear HC HB
                  go_enter Try.func78, Try.ntmps78
                  go_wp2_with fail
                  refine (VM _).mono ?_
                  rintro e w1 ⟨rfl, rfl⟩
                  go_wp2_with fail
                  go_ret
                  rw [HV.out]
                  exact ⟨rfl, rfl⟩
                | false =>
                  have HV : Hid (V = 2) := Hid.mk (by rw [HC.out, HB.out]; simp)
                  clear HC HB
                  go_enter Try.func78, Try.ntmps78
                  go_wp2_with fail
                  refine (VM _).mono ?_
                  rintro e w1 ⟨rfl, rfl⟩
                  go_wp2_with fail
                  go_ret
                  rw [HV.out]
                  exact ⟨rfl, rfl⟩
              | false =>
                cases b6 with
                | false =>
                  have HV : Hid (V = 2) := Hid.mk (by rw [HC.out, HB.out]; simp)
                  clear HC HB
                  go_enter Try.func78, Try.ntmps78
                  go_wp2_with fail
                  go_ret
                  rw [HV.out]
                  exact ⟨rfl, rfl⟩
                | true =>
                  cases bv with
                  | true =>
                    have HV : Hid (V = 0) := Hid.mk (by rw [HC.out, HB.out]; simp)
                    clear HC HB
                    go_enter Try.func78, Try.ntmps78
                    go_wp2_with fail
                    refine (VM _).mono ?_
                    rintro e w1 ⟨rfl, rfl⟩
                    go_wp2_with fail
                    go_ret
                    rw [HV.out]
                    exact ⟨rfl, rfl⟩
                  | false =>
                    have HV : Hid (V = 2) := Hid.mk (by rw [HC.out, HB.out]; simp)
                    clear HC HB
                    go_enter Try.func78, Try.ntmps78
                    go_wp2_with fail
                    refine (VM _).mono ?_
                    rintro e w1 ⟨rfl, rfl⟩
                    go_wp2_with fail
                    go_ret
                    rw [HV.out]
                    exact ⟨rfl, rfl⟩
            | false =>
              cases b64 with
              | true =>
                cases bv with
                | true =>
                  have HV : Hid (V = 0) := Hid.mk (by rw [HC.out, HB.out]; simp)
                  clear HC HB
                  go_enter Try.func78, Try.ntmps78
                  go_wp2_with fail
                  refine (VM _).mono ?_
                  rintro e w1 ⟨rfl, rfl⟩
                  go_wp2_with fail
                  go_ret
                  rw [HV.out]
                  exact ⟨rfl, rfl⟩
                | false =>
                  have HV : Hid (V = 2) := Hid.mk (by rw [HC.out, HB.out]; simp)
                  clear HC HB
                  go_enter Try.func78, Try.ntmps78
                  go_wp2_with fail
                  refine (VM _).mono ?_
                  rintro e w1 ⟨rfl, rfl⟩
                  go_wp2_with fail
                  go_ret
                  rw [HV.out]
                  exact ⟨rfl, rfl⟩
              | false =>
                cases b6 with
                | false =>
                  have HV : Hid (V = 2) := Hid.mk (by rw [HC.out, HB.out]; simp)
                  clear HC HB
                  go_enter Try.func78, Try.ntmps78
                  go_wp2_with fail
                  go_ret
                  rw [HV.out]
                  exact ⟨rfl, rfl⟩
                | true =>
                  cases bv with
                  | true =>
                    have HV : Hid (V = 0) := Hid.mk (by rw [HC.out, HB.out]; simp)
                    clear HC HB
                    go_enter Try.func78, Try.ntmps78
                    go_wp2_with fail
                    refine (VM _).mono ?_
                    rintro e w1 ⟨rfl, rfl⟩
                    go_wp2_with fail
                    go_ret
                    rw [HV.out]
                    exact ⟨rfl, rfl⟩
                  | false =>
                    have HV : Hid (V = 2) := Hid.mk (by rw [HC.out, HB.out]; simp)
                    clear HC HB
                    go_enter Try.func78, Try.ntmps78
                    go_wp2_with fail
                    refine (VM _).mono ?_
                    rintro e w1 ⟨rfl, rfl⟩
                    go_wp2_with fail
                    go_ret
                    rw [HV.out]
                    exact ⟨rfl, rfl⟩
          | false =>
            cases b48 with
            | true =>
              cases b64 with
              | true =>
                cases bv with
                | true =>
                  have HV : Hid (V = 0) := Hid.mk (by rw [HC.out, HB.out]; simp)
                  clear HC HB
                  go_enter Try.func78, Try.ntmps78
                  go_wp2_with fail
                  refine (VM _).mono ?_
                  rintro e w1 ⟨rfl, rfl⟩
                  go_wp2_with fail
                  go_ret
                  rw [HV.out]
                  exact ⟨rfl, rfl⟩
                | false =>
                  have HV : Hid (V = 2) := Hid.mk (by rw [HC.out, HB.out]; simp)
                  clear HC HB
                  go_enter Try.func78, Try.ntmps78
                  go_wp2_with fail
                  refine (VM _).mono ?_
                  rintro e w1 ⟨rfl, rfl⟩
                  go_wp2_with fail
                  go_ret
                  rw [HV.out]
                  exact ⟨rfl, rfl⟩
              | false =>
                cases b6 with
                | false =>
                  have HV : Hid (V = 2) := Hid.mk (by rw [HC.out, HB.out]; simp)
                  clear HC HB
                  go_enter Try.func78, Try.ntmps78
                  go_wp2_with fail
                  go_ret
                  rw [HV.out]
                  exact ⟨rfl, rfl⟩
                | true =>
                  cases bv with
                  | true =>
                    have HV : Hid (V = 0) := Hid.mk (by rw [HC.out, HB.out]; simp)
                    clear HC HB
                    go_enter Try.func78, Try.ntmps78
                    go_wp2_with fail
                    refine (VM _).mono ?_
                    rintro e w1 ⟨rfl, rfl⟩
                    go_wp2_with fail
                    go_ret
                    rw [HV.out]
                    exact ⟨rfl, rfl⟩
                  | false =>
                    have HV : Hid (V = 2) := Hid.mk (by rw [HC.out, HB.out]; simp)
                    clear HC HB
                    go_enter Try.func78, Try.ntmps78
                    go_wp2_with fail
                    refine (VM _).mono ?_
                    rintro e w1 ⟨rfl, rfl⟩
                    go_wp2_with fail
                    go_ret
                    rw [HV.out]
                    exact ⟨rfl, rfl⟩
            | false =>
              cases b64 with
              | true =>
                cases bv with
                | true =>
                  have HV : Hid (V = 0) := Hid.mk (by rw [HC.out, HB.out]; simp)
                  clear HC HB
                  go_enter Try.func78, Try.ntmps78
                  go_wp2_with fail
                  refine (VM _).mono ?_
                  rintro e w1 ⟨rfl, rfl⟩
                  go_wp2_with fail
                  go_ret
                  rw [HV.out]
                  exact ⟨rfl, rfl⟩
                | false =>
                  have HV : Hid (V = 2) := Hid.mk (by rw [HC.out, HB.out]; simp)
                  clear HC HB
                  go_enter Try.func78, Try.ntmps78
                  go_wp2_with fail
                  refine (VM _).mono ?_
                  rintro e w1 ⟨rfl, rfl⟩
                  go_wp2_with fail
                  go_ret
                  rw [HV.out]
                  exact ⟨rfl, rfl⟩
              | false =>
                cases b6 with
                | false =>
                  have HV : Hid (V = 2) := Hid.mk (by rw [HC.out, HB.out]; simp)
                  clear HC HB
                  go_enter Try.func78, Try.ntmps78
                  go_wp2_with fail
                  go_ret
                  rw [HV.out]
                  exact ⟨rfl, rfl⟩
                | true =>
                  cases bv with
                  | true =>
                    have HV : Hid (V = 0) := Hid.mk (by rw [HC.out, HB.out]; simp)
                    clear HC HB
                    go_enter Try.func78, Try.ntmps78
                    go_wp2_with fail
                    refine (VM _).mono ?_
                    rintro e w1 ⟨rfl, rfl⟩
                    go_wp2_with fail
                    go_ret
                    rw [HV.out]
                    exact ⟨rfl, rfl⟩
                  | false =>
                    have HV : Hid (V = 2) := Hid.mk (by rw [HC.out, HB.out]; simp)
                    clear HC HB
                    go_enter Try.func78, Try.ntmps78
                    go_wp2_with fail
                    refine (VM _).mono ?_
                    rintro e w1 ⟨rfl, rfl⟩
                    go_wp2_with fail
                    go_ret
                    rw [HV.out]
                    exact ⟨rfl, rfl⟩
end Go.Proofs.Qxb6500767a
