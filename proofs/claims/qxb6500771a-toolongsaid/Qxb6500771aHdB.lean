/- The header as a value: its verdicts, and the steps' readings. -/
import Derived.Test.Qxb6500771aHdA
namespace Go.Proofs.Qxb6500771a
open Go.RowKit Go.Qm
set_option linter.unusedVariables false
set_option linter.unusedSimpArgs false

/-- The verdict on a header. -/
def chk (id f ec rrc : Nat) : Nat := if id ≠ 1284 ∧ id ≠ 1028 then 10 else if cf id f ≠ 0 then 3 else if id = 1028 ∧ ec ≠ 0 then 6 else if id = 1028 ∧ rrc ≠ 0 then 7 else 0

theorem cf_or (id f : Nat) : cf id f = 3 ∨ cf id f = 0 := by unfold cf; split <;> (try split) <;> simp

theorem bne_t {a b : Int} (h : a ≠ b) : (a != b) = true := by simpa using h
theorem bne_f {a b : Int} (h : a = b) : (a != b) = false := by simpa using h
theorem beq_t {a b : Int} (h : a = b) : (a == b) = true := by simpa using h
theorem beq_f {a b : Int} (h : a ≠ b) : (a == b) = false := by simpa using h

set_option maxHeartbeats 1000000 in
theorem headerErrno_c (id f ec rrc sq : Nat) (w : World) (hid : id < 65536) (hf : f < 256) :
    Calls Try.prog 10 #[.agg #[.int .u16 id, .int .u8 f, .int .u16 ec, .int .u16 rrc, .int .u64 sq]] w fun e w' => e = .returned (.int .i64 (chk id f ec rrc)) ∧ Keep w w' := by
  by_cases h1 : id ≠ 1284 ∧ id ≠ 1028
  · have HC := Hid.mk (show chk id f ec rrc = 10 by simp [chk, h1])
    obtain ⟨a, b⟩ := h1
    have a' : ((id : Int) != 1284) = true := bne_t (by omega)
    have b' : ((id : Int) != 1028) = true := bne_t (by omega)
    clear a b
    go_enter Try.func10, Try.ntmps10
    go_wp2
    go_ret
    exact ⟨by rw [HC.out]; rfl, (Keep.refl _).alloc _⟩
  · have HC := Hid.mk (show chk id f ec rrc = if cf id f ≠ 0 then 3 else if id = 1028 ∧ ec ≠ 0 then 6 else if id = 1028 ∧ rrc ≠ 0 then 7 else 0 by simp only [chk, h1, if_false])
    have h2 : id = 1284 ∨ id = 1028 := by omega
    have hw : Keep w (w.alloc (.cells #[.int .u16 id, .int .u8 f, .int .u16 ec, .int .u16 rrc, .int .u64 sq] 33)) := (Keep.refl _).alloc _
    clear h1
    rcases h2 with h2 | h2
    · subst h2
      go_enter Try.func10, Try.ntmps10
      go_wp2_with fail
      refine (flagsErrno_c 1284 f _ (by omega) hf).mono ?_
      rintro e w1 ⟨rfl, k1⟩
      rcases cf_or 1284 f with hc | hc
      · rw [hc] at HC
        rw [hc]
        clear hc
        go_wp2
        go_ret
        exact ⟨by rw [HC.out]; rfl, hw.trans k1⟩
      · rw [hc] at HC
        rw [hc]
        clear hc
        have c0 := k1.cell (show (w.alloc (.cells #[.int .u16 (1284 : Nat), .int .u8 f, .int .u16 ec, .int .u16 rrc, .int .u64 sq] 33)).cell? ⟨w.heap.size, 0, none⟩ = some (.int .u16 1284) by simp)
        go_wp2
        go_ret
        exact ⟨by rw [HC.out]; rfl, hw.trans k1⟩
    · subst h2
      go_enter Try.func10, Try.ntmps10
      go_wp2_with fail
      refine (flagsErrno_c 1028 f _ (by omega) hf).mono ?_
      rintro e w1 ⟨rfl, k1⟩
      rcases cf_or 1028 f with hc | hc
      · rw [hc] at HC
        rw [hc]
        clear hc
        go_wp2
        go_ret
        exact ⟨by rw [HC.out]; rfl, hw.trans k1⟩
      · rw [hc] at HC
        rw [hc]
        clear hc
        have c0 := k1.cell (show (w.alloc (.cells #[.int .u16 (1028 : Nat), .int .u8 f, .int .u16 ec, .int .u16 rrc, .int .u64 sq] 33)).cell? ⟨w.heap.size, 0, none⟩ = some (.int .u16 1028) by simp)
        have c2 := k1.cell (show (w.alloc (.cells #[.int .u16 (1028 : Nat), .int .u8 f, .int .u16 ec, .int .u16 rrc, .int .u64 sq] 33)).cell? ⟨w.heap.size, 2, none⟩ = some (.int .u16 ec) by simp)
        have c3 := k1.cell (show (w.alloc (.cells #[.int .u16 (1028 : Nat), .int .u8 f, .int .u16 ec, .int .u16 rrc, .int .u64 sq] 33)).cell? ⟨w.heap.size, 3, none⟩ = some (.int .u16 rrc) by simp)
        by_cases he : ec = 0
        · by_cases hr : rrc = 0
          · have he' : ((ec : Int) != 0) = false := bne_f (by omega)
            have hr' : ((rrc : Int) != 0) = false := bne_f (by omega)
            have HD := Hid.mk (show (if (0 : Nat) ≠ 0 then 3 else if (1028 : Nat) = 1028 ∧ ec ≠ 0 then 6 else if (1028 : Nat) = 1028 ∧ rrc ≠ 0 then 7 else 0) = 0 by simp [he, hr])
            clear he hr
            go_wp2
            go_ret
            exact ⟨by rw [HC.out, HD.out]; rfl, hw.trans k1⟩
          · have he' : ((ec : Int) != 0) = false := bne_f (by omega)
            have hr' : ((rrc : Int) != 0) = true := bne_t (by omega)
            have HD := Hid.mk (show (if (0 : Nat) ≠ 0 then 3 else if (1028 : Nat) = 1028 ∧ ec ≠ 0 then 6 else if (1028 : Nat) = 1028 ∧ rrc ≠ 0 then 7 else 0) = 7 by simp [he, hr])
            clear he hr
            go_wp2
            go_ret
            exact ⟨by rw [HC.out, HD.out]; rfl, hw.trans k1⟩
        · have he' : ((ec : Int) != 0) = true := bne_t (by omega)
          have HD := Hid.mk (show (if (0 : Nat) ≠ 0 then 3 else if (1028 : Nat) = 1028 ∧ ec ≠ 0 then 6 else if (1028 : Nat) = 1028 ∧ rrc ≠ 0 then 7 else 0) = 6 by simp [he])
          clear he
          go_wp2
          go_ret
          exact ⟨by rw [HC.out, HD.out]; rfl, hw.trans k1⟩

set_option maxHeartbeats 1000000 in
theorem checkHeader_c (id f ec rrc sq : Nat) (w : World) (hid : id < 65536) (hf : f < 256) :
    Calls Try.prog 11 #[.agg #[.int .u16 id, .int .u8 f, .int .u16 ec, .int .u16 rrc, .int .u64 sq]] w fun e w' => e = .returned (.int .i64 (chk id f ec rrc)) ∧ Keep w w' := by
  by_cases h1 : id ≠ 1284 ∧ id ≠ 1028
  · have HC := Hid.mk (show chk id f ec rrc = 10 by simp [chk, h1])
    obtain ⟨a, b⟩ := h1
    have a' : ((id : Int) != 1284) = true := bne_t (by omega)
    have b' : ((id : Int) != 1028) = true := bne_t (by omega)
    clear a b
    go_enter Try.func11, Try.ntmps11
    go_wp2
    go_ret
    exact ⟨by rw [HC.out]; rfl, (Keep.refl _).alloc _⟩
  · have HC := Hid.mk (show chk id f ec rrc = if cf id f ≠ 0 then 3 else if id = 1028 ∧ ec ≠ 0 then 6 else if id = 1028 ∧ rrc ≠ 0 then 7 else 0 by simp only [chk, h1, if_false])
    have h2 : id = 1284 ∨ id = 1028 := by omega
    have hw : Keep w (w.alloc (.cells #[.int .u16 id, .int .u8 f, .int .u16 ec, .int .u16 rrc, .int .u64 sq] 33)) := (Keep.refl _).alloc _
    clear h1
    rcases h2 with h2 | h2
    · subst h2
      go_enter Try.func11, Try.ntmps11
      go_wp2_with fail
      refine (checkFlags_c 1284 f _ (by omega) hf).mono ?_
      rintro e w1 ⟨rfl, k1⟩
      rcases cf_or 1284 f with hc | hc
      · rw [hc] at HC
        rw [hc]
        clear hc
        go_wp2
        go_ret
        exact ⟨by rw [HC.out]; rfl, hw.trans k1⟩
      · rw [hc] at HC
        rw [hc]
        clear hc
        have c0 := k1.cell (show (w.alloc (.cells #[.int .u16 (1284 : Nat), .int .u8 f, .int .u16 ec, .int .u16 rrc, .int .u64 sq] 33)).cell? ⟨w.heap.size, 0, none⟩ = some (.int .u16 1284) by simp)
        go_wp2
        go_ret
        exact ⟨by rw [HC.out]; rfl, hw.trans k1⟩
    · subst h2
      go_enter Try.func11, Try.ntmps11
      go_wp2_with fail
      refine (checkFlags_c 1028 f _ (by omega) hf).mono ?_
      rintro e w1 ⟨rfl, k1⟩
      rcases cf_or 1028 f with hc | hc
      · rw [hc] at HC
        rw [hc]
        clear hc
        go_wp2
        go_ret
        exact ⟨by rw [HC.out]; rfl, hw.trans k1⟩
      · rw [hc] at HC
        rw [hc]
        clear hc
        have c0 := k1.cell (show (w.alloc (.cells #[.int .u16 (1028 : Nat), .int .u8 f, .int .u16 ec, .int .u16 rrc, .int .u64 sq] 33)).cell? ⟨w.heap.size, 0, none⟩ = some (.int .u16 1028) by simp)
        have c2 := k1.cell (show (w.alloc (.cells #[.int .u16 (1028 : Nat), .int .u8 f, .int .u16 ec, .int .u16 rrc, .int .u64 sq] 33)).cell? ⟨w.heap.size, 2, none⟩ = some (.int .u16 ec) by simp)
        have c3 := k1.cell (show (w.alloc (.cells #[.int .u16 (1028 : Nat), .int .u8 f, .int .u16 ec, .int .u16 rrc, .int .u64 sq] 33)).cell? ⟨w.heap.size, 3, none⟩ = some (.int .u16 rrc) by simp)
        by_cases he : ec = 0
        · by_cases hr : rrc = 0
          · have he' : ((ec : Int) != 0) = false := bne_f (by omega)
            have hr' : ((rrc : Int) != 0) = false := bne_f (by omega)
            have HD := Hid.mk (show (if (0 : Nat) ≠ 0 then 3 else if (1028 : Nat) = 1028 ∧ ec ≠ 0 then 6 else if (1028 : Nat) = 1028 ∧ rrc ≠ 0 then 7 else 0) = 0 by simp [he, hr])
            clear he hr
            go_wp2
            go_ret
            exact ⟨by rw [HC.out, HD.out]; rfl, hw.trans k1⟩
          · have he' : ((ec : Int) != 0) = false := bne_f (by omega)
            have hr' : ((rrc : Int) != 0) = true := bne_t (by omega)
            have HD := Hid.mk (show (if (0 : Nat) ≠ 0 then 3 else if (1028 : Nat) = 1028 ∧ ec ≠ 0 then 6 else if (1028 : Nat) = 1028 ∧ rrc ≠ 0 then 7 else 0) = 7 by simp [he, hr])
            clear he hr
            go_wp2
            go_ret
            exact ⟨by rw [HC.out, HD.out]; rfl, hw.trans k1⟩
        · have he' : ((ec : Int) != 0) = true := bne_t (by omega)
          have HD := Hid.mk (show (if (0 : Nat) ≠ 0 then 3 else if (1028 : Nat) = 1028 ∧ ec ≠ 0 then 6 else if (1028 : Nat) = 1028 ∧ rrc ≠ 0 then 7 else 0) = 6 by simp [he])
          clear he
          go_wp2
          go_ret
          exact ⟨by rw [HC.out, HD.out]; rfl, hw.trans k1⟩

theorem headerOf_c (k0 e1 v2 u3 q9 q10 q11 : Value) (id f ec rrc sq : Nat) (o12 o13 o14 o15 : Value) (w : World) :
    Calls Try.prog 8 #[.agg #[k0, e1, v2, u3, .int .u16 id, .int .u8 f, .int .u16 ec, .int .u16 rrc, .int .u64 sq, q9, q10, q11, o12, o13, o14, o15]] w fun e w' =>
      e = .returned (.agg #[.int .u16 id, .int .u8 f, .int .u16 ec, .int .u16 rrc, .int .u64 sq]) ∧ Keep w w' := by
  go_enter Try.func8, Try.ntmps8
  go_wp2
  refine bodyPost_ret (v := .agg #[.int .u16 id, .int .u8 f, .int .u16 ec, .int .u16 rrc, .int .u64 sq]) (by simp [results, Try.results8, go_sem]) rfl ⟨rfl, ((Keep.refl _).alloc _).alloc _⟩

/-- The well-formed header of a step. -/
def wfId (id : Nat) : Nat := if id % 2 = 1 then 1028 else 1284
def wfF (id f : Nat) : Nat := if id % 2 = 1 then f % 8 - f % 8 / 2 % 2 * 2 else f % 8
def wfE (id ec : Nat) : Nat := if id % 2 = 1 then 0 else ec

set_option maxHeartbeats 1000000 in
theorem wellFormed_c (k0 e1 v2 u3 q9 q10 q11 : Value) (id f ec rrc sq : Nat) (o12 o13 o14 o15 : Value) (w : World) (hid : id < 65536) (hf : f < 256) :
    Calls Try.prog 12 #[.agg #[k0, e1, v2, u3, .int .u16 id, .int .u8 f, .int .u16 ec, .int .u16 rrc, .int .u64 sq, q9, q10, q11, o12, o13, o14, o15]] w fun e w' =>
      e = .returned (.agg #[.int .u16 (wfId id), .int .u8 (wfF id f), .int .u16 (wfE id ec), .int .u16 (wfE id rrc), .int .u64 sq]) ∧ Keep w w' := by
  have h7 := and7 ⟨f, hf⟩
  have h2 := andNot2 ⟨f % 8, by omega⟩
  simp only at h7 h2
  have i0 : (id : Int) ≤ 65535 := by omega
  by_cases hodd : id % 2 = 1
  · have ho : ((id : Int) % 2 == 1) = true := beq_t (by omega)
    have HI := Hid.mk (show wfId id = 1028 by simp [wfId, hodd])
    have HF := Hid.mk (show wfF id f = f % 8 - f % 8 / 2 % 2 * 2 by simp [wfF, hodd])
    have HE := Hid.mk (show ∀ x, wfE id x = 0 by simp [wfE, hodd])
    clear hodd
    generalize f % 8 - f % 8 / 2 % 2 * 2 = f2 at h2 HF
    generalize f % 8 = f1 at h7 h2
    go_enter Try.func12, Try.ntmps12
    go_wp2
    rw [HI.out, HF.out, HE.out, HE.out]
    refine bodyPost_ret (v := .agg #[.int .u16 1028, .int .u8 f2, .int .u16 0, .int .u16 0, .int .u64 sq]) (by simp [results, Try.results12, go_sem]) rfl ⟨rfl, (((Keep.refl _).alloc _).alloc _).alloc _⟩
  · have ho : ((id : Int) % 2 == 1) = false := beq_f (by omega)
    have HI := Hid.mk (show wfId id = 1284 by simp [wfId, hodd])
    have HF := Hid.mk (show wfF id f = f % 8 by simp [wfF, hodd])
    have HE := Hid.mk (show ∀ x, wfE id x = x by simp [wfE, hodd])
    clear hodd h2
    generalize f % 8 = f1 at h7 HF
    go_enter Try.func12, Try.ntmps12
    go_wp2
    rw [HI.out, HF.out, HE.out, HE.out]
    refine bodyPost_ret (v := .agg #[.int .u16 1284, .int .u8 f1, .int .u16 ec, .int .u16 rrc, .int .u64 sq]) (by simp [results, Try.results12, go_sem]) rfl ⟨rfl, (((Keep.refl _).alloc _).alloc _).alloc _⟩

theorem room_c (k0 e1 v2 u3 x4 x5 x6 x7 x8 q9 q10 q11 : Value) (o12 o13 o15 : Value) (r : Int) (w : World) (hr : -9223372036854775808 ≤ r) (hr1 : r ≤ 9223372036854775807) :
    Calls Try.prog 40 #[.agg #[k0, e1, v2, u3, x4, x5, x6, x7, x8, q9, q10, q11, o12, o13, .int .i64 r, o15]] w fun e w' => e = .returned (.int .i64 (r % 4097)) ∧ Keep w w' := by
  go_enter Try.func40, Try.ntmps40
  go_wp2_with fail
  refine (place_c r 4096 _ (by omega) (by omega) hr hr1).mono ?_
  rintro e w1 ⟨rfl, k1⟩
  go_wp2
  go_ret
  exact ⟨rfl, ((Keep.refl _).alloc _).trans k1⟩

attribute [local go_sem ↓] Go.wp_at_zero Go.wp_at_succ

set_option maxHeartbeats 1000000 in
theorem lend_c (k0 e1 v2 u3 x4 x5 x6 x7 x8 q9 q10 q11 : Value) (o12 o13 : Value) (r : Int) (c : UInt8) (w : World) (hr : -9223372036854775808 ≤ r) (hr1 : r ≤ 9223372036854775807) :
    Calls Try.prog 15 #[.agg #[k0, e1, v2, u3, x4, x5, x6, x7, x8, q9, q10, q11, o12, o13, .int .i64 r, .int .u8 c.toNat], .int .i64 16] w fun e w' =>
      ∃ v', e = .returned v' ∧ Own w.heap.size 5 w' v' ((List.replicate (16 + (r % 4097).toNat) c).map cb) ∧ Keep w w' := by
  have h0 : 0 ≤ r % 4097 := Int.emod_nonneg _ (by omega)
  have h1 : r % 4097 < 4097 := Int.emod_lt_of_pos _ (by omega)
  obtain ⟨m, hm⟩ := Int.eq_ofNat_of_zero_le h0
  have h2 : IntKind.i64.wrap (16 + (m : Int)) = ((16 + m : Nat) : Int) := by rw [IntKind.wrap_i64]; omega
  have hm2 : m < 4097 := by omega
  have HM := Hid.mk hm
  rw [hm]
  clear hm h0 h1
  go_enter Try.func15, Try.ntmps15
  go_wp2_with fail
  have W0 : ((w.alloc (.cells #[k0, e1, v2, u3, x4, x5, x6, x7, x8, q9, q10, q11, o12, o13, .int .i64 r, .int .u8 c.toNat] 31)).drew).cell? ⟨w.heap.size, 15, none⟩ = some (.int .u8 c.toNat) := by simp
  go_region_with (first
    | (go_at_call 40; refine (room_c _ _ _ _ _ _ _ _ _ _ _ _ _ _ _ r _ hr hr1).mono ?_; rintro e w1 ⟨rfl, k1⟩; rw [HM.out]; have c15 := k1.cell W0)
    | (go_at_call 19; refine (repeat_c c (16 + m) _ (by omega)).mono ?_; rintro e w2 ⟨rv, rfl, ow, k2⟩))
  all_goals
    go_wp2
    go_ret
    have kk := (((Keep.refl w).alloc _).drew).trans k1
    exact ⟨_, rfl, ow.mono kk.size, kk.trans k2⟩

set_option maxHeartbeats 1000000 in
theorem untouched_c (v k0 e1 v2 u3 x4 x5 x6 x7 x8 q9 q10 q11 o12 o13 o14 : Value) (c : UInt8) (l : List UInt8) (w : World) (h : Bs w v l) (hl : l.length ≤ 1000000) :
    Calls Try.prog 18 #[v, .agg #[k0, e1, v2, u3, x4, x5, x6, x7, x8, q9, q10, q11, o12, o13, o14, .int .u8 c.toNat]] w fun e w' =>
      e = .returned (.bool (decide (l = List.replicate l.length c))) ∧ Keep w w' := by
  have hb := h
  obtain ⟨a, cc, rfl, hac, hcm, hca⟩ := h.form
  clear hca h
  unfold maxLen at hcm
  go_enter Try.func18, Try.ntmps18
  go_wp2_with fail
  have k0 : Keep w (w.alloc (.cells #[k0, e1, v2, u3, x4, x5, x6, x7, x8, q9, q10, q11, o12, o13, o14, .int .u8 c.toNat] 31)) := (Keep.refl w).alloc _
  refine (repeat_c c l.length _ hl).mono ?_
  rintro e w1 ⟨rv, rfl, ow, k1⟩
  go_wp2_with fail
  refine (same_c _ _ l _ _ (hb.keep (k0.trans k1)) ow.bs).mono ?_
  rintro e w2 ⟨rfl, k2⟩
  go_wp2
  go_ret
  exact ⟨rfl, (k0.trans k1).trans k2⟩

/-- What PeekID answers. -/
def peek (l : List UInt8) : Nat × Nat := if l.length < 16 then (0, 8) else if num (l.take 2) ≠ 1284 ∧ num (l.take 2) ≠ 1028 then (0, 10) else (num (l.take 2), 0)

theorem num2_lt (l : List UInt8) (h : l.length ≤ 2) : num l < 65536 := by
  have := num_lt l
  have h2 : 256 ^ l.length ≤ 256 ^ 2 := Nat.pow_le_pow_right (by omega) h
  omega

set_option maxHeartbeats 1000000 in
theorem peekID_c (v : Value) (l : List UInt8) (w : World) (h : Bs w v l) :
    Calls Try.prog 38 #[v] w fun e w' => e = .returned (.tuple #[.int .u16 (peek l).1, .int .i64 (peek l).2]) ∧ Keep w w' := by
  have hb := h
  obtain ⟨a, c, rfl, hac, hcm, hca⟩ := h.form
  clear h
  unfold maxLen at hcm
  by_cases hs : l.length < 16
  · have HP := Hid.mk (show peek l = (0, 8) by simp [peek, hs])
    have hs' : (l.length : Int) < 16 := by omega
    clear hca
    go_enter Try.func38, Try.ntmps38
    go_wp2
    go_ret2
    exact ⟨by rw [HP.out]; rfl, Keep.refl _⟩
  · have HP := Hid.mk (show peek l = if num (l.take 2) ≠ 1284 ∧ num (l.take 2) ≠ 1028 then (0, 10) else (num (l.take 2), 0) by simp [peek, hs])
    have hs' : ¬ (l.length : Int) < 16 := by omega
    obtain ⟨b, o, rfl, _⟩ := hca 0 (by omega)
    clear hca
    have g1 : (2 : Int) ≤ l.length := by omega
    have g2 : (2 : Int) ≤ c := by omega
    have g3 : 2 ≤ c := by omega
    have p1 : Bs w (.slice (some ⟨b, o, none⟩) 2 c) (l.take 2) := by
      have := Bs.part hb (i := 0) (j := 2) (by omega) (by omega) (some ⟨b, o, none⟩) (fun _ => by simp [Addr.add])
      simpa using this
    have hn := num2_lt (l.take 2) (by rw [List.length_take]; omega)
    have hn' : (num (l.take 2) : Int) < 65536 := by omega
    have hw : IntKind.u16.wrap (num (l.take 2) : Int) = num (l.take 2) := by simp [IntKind.wrap, IntKind.signed, IntKind.bits]; omega
    generalize hid : num (l.take 2) = id at HP hn hn' hw
    go_enter Try.func38, Try.ntmps38
    go_wp2_with fail
    refine (number_c _ (l.take 2) _ p1 (by rw [List.length_take]; omega)).mono ?_
    rintro e w1 ⟨rfl, k1⟩
    rw [hid]
    by_cases h1 : id ≠ 1284 ∧ id ≠ 1028
    · obtain ⟨x, y⟩ := h1
      have a' : ((id : Int) != 1284) = true := bne_t (by omega)
      have b' : ((id : Int) != 1028) = true := bne_t (by omega)
      rw [if_pos ⟨x, y⟩] at HP
      clear x y hid
      go_wp2
      go_ret2
      exact ⟨by rw [HP.out]; rfl, k1⟩
    · rw [if_neg h1] at HP
      by_cases h2 : id = 1284
      · have a' : ((id : Int) != 1284) = false := bne_f (by omega)
        clear h1 h2 hid
        go_wp2
        go_ret2
        exact ⟨by rw [HP.out]; rfl, k1⟩
      · have a' : ((id : Int) != 1284) = true := bne_t (by omega)
        have b' : ((id : Int) != 1028) = false := bne_f (by omega)
        clear h1 h2 hid
        go_wp2
        go_ret2
        exact ⟨by rw [HP.out]; rfl, k1⟩
end Go.Proofs.Qxb6500771a
