/- token.Sealed, checkFlags, CheckHeader (carried over from 771a). -/
import Derived.Test.Qxb6500771aGreatTmB
namespace Go.Proofs.Qxb6500771aGreat
open Go.RowKit Go.Qm
set_option linter.unusedVariables false
set_option linter.unusedSimpArgs false
theorem and2 : ∀ f : Fin 256, bits .and .u8 ((f.val : Nat) : Int) 2 = ((f.val / 2 % 2 * 2 : Nat) : Int) := by decide +kernel
theorem andNot7 : ∀ f : Fin 256, bits .andNot .u8 ((f.val : Nat) : Int) 7 = ((f.val / 8 * 8 : Nat) : Int) := by decide +kernel
theorem and7 : ∀ f : Fin 256, bits .and .u8 ((f.val : Nat) : Int) 7 = ((f.val % 8 : Nat) : Int) := by decide +kernel
theorem andNot2 : ∀ f : Fin 256, bits .andNot .u8 ((f.val : Nat) : Int) 2 = ((f.val - f.val / 2 % 2 * 2 : Nat) : Int) := by decide +kernel

theorem sealed_c (f : Nat) (w : World) (hf : f < 256) :
    Calls Tryz.prog 8 #[.int .u8 f] w fun e w' => e = .returned (.bool (decide (f / 2 % 2 = 1))) ∧ Keep w w' := by
  have h := and2 ⟨f, hf⟩
  simp only at h
  go_enter Tryz.func8, Tryz.ntmps8
  go_wp2
  go_ret
  refine ⟨ret_bool ?_, Keep.refl _⟩
  by_cases hb : f / 2 % 2 = 1
  · rw [decide_eq_true hb]; simp; omega
  · rw [decide_eq_false hb]; simp; omega

/-- The verdict on the flags of a token of the kind id. -/
def cf (id f : Nat) : Nat := if 8 ≤ f then 3 else if id = 1028 ∧ f / 2 % 2 = 1 then 3 else 0

theorem checkFlags_c (id f : Nat) (w : World) (hid : id < 65536) (hf : f < 256) :
    Calls Tryz.prog 58 #[.int .u16 id, .int .u8 f] w fun e w' => e = .returned (.int .i64 (cf id f)) ∧ Keep w w' := by
  have h := andNot7 ⟨f, hf⟩
  simp only at h
  by_cases h8 : 8 ≤ f
  · have hc : cf id f = 3 := by simp [cf, h8]
    have hb : ((f / 8 * 8 : Nat) : Int) ≠ 0 := by omega
    have HC := Hid.mk hc
    clear hc
    go_enter Tryz.func58, Tryz.ntmps58
    go_wp2
    go_ret
    exact ⟨by rw [HC.out]; rfl, Keep.refl _⟩
  · have hb : f / 8 * 8 = 0 := by omega
    rw [hb] at h
    by_cases hi : id = 1028
    · have HC := Hid.mk (show cf id f = if f / 2 % 2 = 1 then 3 else 0 by simp [cf, h8, hi])
      have hi' : (id : Int) = 1028 := by omega
      clear hb
      go_enter Tryz.func58, Tryz.ntmps58
      go_wp2_with fail
      refine (sealed_c f w hf).mono ?_
      rintro e w1 ⟨rfl, k1⟩
      by_cases hs : f / 2 % 2 = 1
      · rw [decide_eq_true hs]
        have HS := Hid.mk hs
        clear hs
        go_wp2
        go_ret
        exact ⟨by rw [HC.out, if_pos HS.out]; rfl, k1⟩
      · rw [decide_eq_false hs]
        have HS := Hid.mk hs
        clear hs
        go_wp2
        go_ret
        exact ⟨by rw [HC.out, if_neg HS.out]; rfl, k1⟩
    · have HC := Hid.mk (show cf id f = 0 by simp [cf, h8, hi])
      have hi' : ¬ (id : Int) = 1028 := by omega
      clear hb
      go_enter Tryz.func58, Tryz.ntmps58
      go_wp2
      go_ret
      exact ⟨by rw [HC.out]; rfl, Keep.refl _⟩
/-- The verdict on a header. -/
def chH (id f ec rrc : Nat) : Nat := if id ≠ 1284 ∧ id ≠ 1028 then 10 else if cf id f ≠ 0 then 3 else if id = 1028 ∧ ec ≠ 0 then 6 else if id = 1028 ∧ rrc ≠ 0 then 7 else 0

theorem cf_or (id f : Nat) : cf id f = 3 ∨ cf id f = 0 := by unfold cf; split <;> (try split) <;> simp

theorem beq_t {a b : Int} (h : a = b) : (a == b) = true := by simpa using h
theorem beq_f {a b : Int} (h : a ≠ b) : (a == b) = false := by simpa using h
set_option maxHeartbeats 1000000 in
theorem checkHeader_c (id f ec rrc sq : Nat) (w : World) (hid : id < 65536) (hf : f < 256) :
    Calls Tryz.prog 61 #[.agg #[.int .u16 id, .int .u8 f, .int .u16 ec, .int .u16 rrc, .int .u64 sq]] w fun e w' => e = .returned (.int .i64 (chH id f ec rrc)) ∧ Keep w w' := by
  by_cases h1 : id ≠ 1284 ∧ id ≠ 1028
  · have HC := Hid.mk (show chH id f ec rrc = 10 by simp [chH, h1])
    obtain ⟨a, b⟩ := h1
    have a' : ((id : Int) != 1284) = true := bne_t (by omega)
    have b' : ((id : Int) != 1028) = true := bne_t (by omega)
    clear a b
    go_enter Tryz.func61, Tryz.ntmps61
    go_wp2
    go_ret
    exact ⟨by rw [HC.out]; rfl, (Keep.refl _).alloc _⟩
  · have HC := Hid.mk (show chH id f ec rrc = if cf id f ≠ 0 then 3 else if id = 1028 ∧ ec ≠ 0 then 6 else if id = 1028 ∧ rrc ≠ 0 then 7 else 0 by simp only [chH, h1, if_false])
    have h2 : id = 1284 ∨ id = 1028 := by omega
    have hw : Keep w (w.alloc (.cells #[.int .u16 id, .int .u8 f, .int .u16 ec, .int .u16 rrc, .int .u64 sq] 56)) := (Keep.refl _).alloc _
    clear h1
    rcases h2 with h2 | h2
    · subst h2
      go_enter Tryz.func61, Tryz.ntmps61
      go_wp2_with fail
      refine (checkFlags_c 1284 f _ (by omega) hf).mono ?_
      rintro e w1 ⟨rfl, k1⟩
      rcases cf_or 1284 f with hc | hc
      · rw [hc] at HC
        rw [hc]
        clear hc
        go_wp2
        go_ret
        exact ⟨by rw [HC.out]; rfl, hw.trans k1⟩
      · rw [hc] at HC
        rw [hc]
        clear hc
        have c0 := k1.cell (show (w.alloc (.cells #[.int .u16 (1284 : Nat), .int .u8 f, .int .u16 ec, .int .u16 rrc, .int .u64 sq] 56)).cell? ⟨w.heap.size, 0, none⟩ = some (.int .u16 1284) by simp)
        go_wp2
        go_ret
        exact ⟨by rw [HC.out]; rfl, hw.trans k1⟩
    · subst h2
      go_enter Tryz.func61, Tryz.ntmps61
      go_wp2_with fail
      refine (checkFlags_c 1028 f _ (by omega) hf).mono ?_
      rintro e w1 ⟨rfl, k1⟩
      rcases cf_or 1028 f with hc | hc
      · rw [hc] at HC
        rw [hc]
        clear hc
        go_wp2
        go_ret
        exact ⟨by rw [HC.out]; rfl, hw.trans k1⟩
      · rw [hc] at HC
        rw [hc]
        clear hc
        have c0 := k1.cell (show (w.alloc (.cells #[.int .u16 (1028 : Nat), .int .u8 f, .int .u16 ec, .int .u16 rrc, .int .u64 sq] 56)).cell? ⟨w.heap.size, 0, none⟩ = some (.int .u16 1028) by simp)
        have c2 := k1.cell (show (w.alloc (.cells #[.int .u16 (1028 : Nat), .int .u8 f, .int .u16 ec, .int .u16 rrc, .int .u64 sq] 56)).cell? ⟨w.heap.size, 2, none⟩ = some (.int .u16 ec) by simp)
        have c3 := k1.cell (show (w.alloc (.cells #[.int .u16 (1028 : Nat), .int .u8 f, .int .u16 ec, .int .u16 rrc, .int .u64 sq] 56)).cell? ⟨w.heap.size, 3, none⟩ = some (.int .u16 rrc) by simp)
        by_cases he : ec = 0
        · by_cases hr : rrc = 0
          · have he' : ((ec : Int) != 0) = false := bne_f (by omega)
            have hr' : ((rrc : Int) != 0) = false := bne_f (by omega)
            have HD := Hid.mk (show (if (0 : Nat) ≠ 0 then 3 else if (1028 : Nat) = 1028 ∧ ec ≠ 0 then 6 else if (1028 : Nat) = 1028 ∧ rrc ≠ 0 then 7 else 0) = 0 by simp [he, hr])
            clear he hr
            go_wp2
            go_ret
            exact ⟨by rw [HC.out, HD.out]; rfl, hw.trans k1⟩
          · have he' : ((ec : Int) != 0) = false := bne_f (by omega)
            have hr' : ((rrc : Int) != 0) = true := bne_t (by omega)
            have HD := Hid.mk (show (if (0 : Nat) ≠ 0 then 3 else if (1028 : Nat) = 1028 ∧ ec ≠ 0 then 6 else if (1028 : Nat) = 1028 ∧ rrc ≠ 0 then 7 else 0) = 7 by simp [he, hr])
            clear he hr
            go_wp2
            go_ret
            exact ⟨by rw [HC.out, HD.out]; rfl, hw.trans k1⟩
        · have he' : ((ec : Int) != 0) = true := bne_t (by omega)
          have HD := Hid.mk (show (if (0 : Nat) ≠ 0 then 3 else if (1028 : Nat) = 1028 ∧ ec ≠ 0 then 6 else if (1028 : Nat) = 1028 ∧ rrc ≠ 0 then 7 else 0) = 6 by simp [he])
          clear he
          go_wp2
          go_ret
          exact ⟨by rw [HC.out, HD.out]; rfl, hw.trans k1⟩

end Go.Proofs.Qxb6500771aGreat
