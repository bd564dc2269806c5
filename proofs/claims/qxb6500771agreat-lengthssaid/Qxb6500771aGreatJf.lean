/- Lengths: what its calls answer, in letters. -/
import Derived.Test.Qxb6500771aGreatIk
import Derived.Test.Qxb6500771aGreatIg
import Derived.Test.Qxb6500771aGreatJe
namespace Go.Proofs.Qxb6500771aGreat
open Go Go.RowKit Go.Qm Go.Qv
set_option linter.unusedVariables false
set_option linter.unusedSimpArgs false
theorem sealedQ_c (f : Nat) (w : World) (hf : f < 256) :
    Calls Tryz.prog 8 #[.int .u8 f] w fun e w' => e = .returned (.bool (decide (f / 2 % 2 = 1))) ∧ w' = w := by
  have h := and2 ⟨f, hf⟩
  simp only at h
  go_enter Tryz.func8, Tryz.ntmps8
  go_wp2
  go_ret
  refine ⟨ret_bool ?_, rfl⟩
  by_cases hb : f / 2 % 2 = 1
  · rw [decide_eq_true hb]; simp; omega
  · rw [decide_eq_false hb]; simp; omega
theorem checksumLenQ_c (e : Int) (w : World) (h : srv e) : Calls Tryz.prog 19 #[.int .i32 e] w fun x w' => x = .returned (.int .i64 (cl e)) ∧ w' = w := by
  rcases h with rfl | rfl | rfl | rfl | rfl | rfl
  all_goals
    go_enter Tryz.func19, Tryz.ntmps19
    go_wp2
    go_ret
    exact ⟨rfl, rfl⟩
theorem confounderLenQ_c (e : Int) (w : World) (h : srv e) : Calls Tryz.prog 31 #[.int .i32 e] w fun x w' => x = .returned (.int .i64 16) ∧ w' = w := by
  rcases h with rfl | rfl | rfl | rfl | rfl | rfl
  all_goals
    go_enter Tryz.func31, Tryz.ntmps31
    go_wp2
    go_ret
    exact ⟨rfl, rfl⟩
theorem formulaQ_c (e : Int) (sealed : Bool) (ec n : Nat) (w : World) (hs : srv e) (hec : ec < 65536) (hn : n ≤ 2000000) :
    Calls Tryz.prog 11 #[.int .i32 e, .bool sealed, .int .u16 ec, .int .i64 n] w fun x w' => x = .returned (.int .i64 ((ovh e sealed ec + n : Nat) : Int)) ∧ w' = w := by
  have hc := cl_le e
  have HS := Hid.mk hs
  clear hs
  cases sealed with
  | true =>
    have HO : Hid ((16 : Int) + 16 + n + ec + 16 + cl e = ((ovh e true ec + n : Nat) : Int)) := Hid.mk (by unfold ovh; rw [if_pos rfl]; omega)
    have x0 : IntKind.i64.wrap (ec : Int) = ec := by rw [IntKind.wrap_i64]; omega
    have x1 : IntKind.i64.wrap (32 + (n : Int)) = 32 + (n : Int) := by rw [IntKind.wrap_i64]; omega
    have x2 : IntKind.i64.wrap (32 + (n : Int) + ec) = 32 + (n : Int) + ec := by rw [IntKind.wrap_i64]; omega
    have x3 : IntKind.i64.wrap (32 + (n : Int) + ec + 16) = 32 + (n : Int) + ec + 16 := by rw [IntKind.wrap_i64]; omega
    have x4 : IntKind.i64.wrap (32 + (n : Int) + ec + 16 + cl e) = 32 + (n : Int) + ec + 16 + cl e := by rw [IntKind.wrap_i64]; omega
    go_enter Tryz.func11, Tryz.ntmps11
    go_wp2_with fail
    refine (confounderLenQ_c e w HS.out).mono ?_
    rintro x w1 ⟨rfl, rfl⟩
    go_wp2_with fail
    refine (checksumLenQ_c e w1 HS.out).mono ?_
    rintro x w2 ⟨rfl, rfl⟩
    go_wp2_with fail
    go_ret
    exact ⟨ret_int (by have := HO.out; omega), rfl⟩
  | false =>
    have HO : Hid ((16 : Int) + n + cl e = ((ovh e false ec + n : Nat) : Int)) := Hid.mk (by unfold ovh; rw [if_neg (by decide)]; omega)
    have x1 : IntKind.i64.wrap (16 + (n : Int)) = 16 + (n : Int) := by rw [IntKind.wrap_i64]; omega
    have x2 : IntKind.i64.wrap (16 + (n : Int) + cl e) = 16 + (n : Int) + cl e := by rw [IntKind.wrap_i64]; omega
    go_enter Tryz.func11, Tryz.ntmps11
    go_wp2_with fail
    refine (checksumLenQ_c e w HS.out).mono ?_
    rintro x w2 ⟨rfl, rfl⟩
    go_wp2_with fail
    go_ret
    exact ⟨ret_int (by have := HO.out; omega), rfl⟩
/-- What the calls of one round of Lengths answer. -/
structure LC (e : Int) (f8 ec : Nat) (off nn : Int) (w1 : World) (KV SV SM : Value) (a10 : Option Addr) (n10 c10 : Nat) (L1 L2 : List Value) (sb : Bool) (o n L c : Nat) : Prop where
  ob : o ≤ 70000
  nb : n ≤ 1048576
  lb : L ≤ 1048576
  cb : c ≤ 24
  db : n10 ≤ 1048576
  sq : ∀ Z, Calls Tryz.prog 8 #[.int .u8 f8] Z fun x w' => x = .returned (.bool sb) ∧ w' = Z
  pl : ∀ Z, Calls Tryz.prog 9 #[.int .i64 off, .int .i64 1048576] Z fun x w' => x = .returned (.int .i64 n) ∧ Keep Z w'
  wl : ∀ Z, Calls Tryz.prog 10 #[.int .i32 e, .bool sb, .int .u16 ec, .int .i64 n] Z fun x w' => x = .returned (.tuple #[.int .i64 ((o + n : Nat) : Int), .int .i64 0]) ∧ Keep Z w'
  fo : ∀ (m : Nat) Z, m ≤ 2000000 → Calls Tryz.prog 11 #[.int .i32 e, .bool sb, .int .u16 ec, .int .i64 m] Z fun x w' => x = .returned (.int .i64 ((o + m : Nat) : Int)) ∧ w' = Z
  ml : ∀ Z, Calls Tryz.prog 12 #[.int .i32 e, .bool sb, .int .u16 ec, .int .i64 ((o + n : Nat) : Int)] Z fun x w' => x = .returned (.tuple #[.int .i64 n, .int .i64 0]) ∧ Keep Z w'
  wx : ∀ Z, Calls Tryz.prog 10 #[.int .i32 e, .bool sb, .int .u16 ec, .int .i64 ((1048577 + n : Nat) : Int)] Z fun x w' => x = .returned (.tuple #[.int .i64 0, .int .i64 4]) ∧ Keep Z w'
  wr : ∀ Z da, Keep w1 Z → Calls Tryz.prog 13 #[.slice da 0 0, KV, SV, .slice a10 n10 c10] Z fun x w' => (∃ g, x = .returned (.tuple #[.slice (some ⟨g, 0, none⟩) (o + n10) (o + n10), .int .i64 0])) ∧ Keep Z w'
  lm : ∀ Z, Calls Tryz.prog 16 #[.int .i32 e, .bool sb, .int .u16 ec, .int .i64 nn] Z fun x w' => x = .returned (.tuple #[.int .i64 L, .int .i64 0]) ∧ Keep Z w'
  lp : 0 < L → ¬ ((o + L : Nat) : Int) > nn
  lq : L < 1048576 → ¬ ((o + (L + 1) : Nat) : Int) ≤ nn
  k1 : ∀ Z, Calls Tryz.prog 14 #[.agg L1.toArray] Z fun x w' => x = .returned KV ∧ Keep Z w'
  s1 : ∀ Z, Calls Tryz.prog 15 #[.agg L1.toArray] Z fun x w' => x = .returned SV ∧ Keep Z w'
  fm : ∀ Z, Calls Tryz.prog 17 #[.agg L1.toArray] Z fun x w' => x = .returned (.agg L2.toArray) ∧ Keep Z w'
  k2 : ∀ Z, Calls Tryz.prog 14 #[.agg L2.toArray] Z fun x w' => x = .returned KV ∧ Keep Z w'
  s2 : ∀ Z, Calls Tryz.prog 15 #[.agg L2.toArray] Z fun x w' => x = .returned SM ∧ Keep Z w'
  mc : ∀ Z da, Keep w1 Z → Calls Tryz.prog 18 #[.slice da 0 0, KV, SM, .slice a10 n10 c10] Z fun x w' => (∃ g, x = .returned (.tuple #[.slice (some ⟨g, 0, none⟩) (16 + c) (16 + c), .int .i64 0])) ∧ Keep Z w'
  cs : ∀ Z, Calls Tryz.prog 19 #[.int .i32 e] Z fun x w' => x = .returned (.int .i64 c) ∧ Keep Z w'
  mz : ∀ Z, Calls Tryz.prog 20 #[.int .i32 e] Z fun x w' => x = .returned (.tuple #[.int .i64 ((16 + c : Nat) : Int), .int .i64 0]) ∧ Keep Z w'
  z1 : L1.length = 16
  z2 : L2.length = 16
  o1 : L1.toArray.all (·.oneCell') = true
  o2 : L2.toArray.all (·.oneCell') = true
  d1 : L1[1]? = some (.int .i32 e)
  d5 : L1[5]? = some (.int .u8 f8)
  d6 : L1[6]? = some (.int .u16 ec)
  d10 : L1[10]? = some (.slice a10 n10 c10)
  d12 : L1[12]? = some (.int .i64 off)
  d13 : L1[13]? = some (.int .i64 nn)
  q10 : L2[10]? = some (.slice a10 n10 c10)
theorem lc_of (kd e id off nn room fi : Int) (us f ec rrc sq : Nat) (ka ca a10 : Option Addr) (kc cc n10 c10 : Nat) (fb : Bool) (w : World) (key conf msg : List UInt8) (hs : srv e)
    (hk : Bs w (.slice ka (kl e) kc) key) (hkl : key.length = kl e) (hc : Bs w (.slice ca 16 cc) conf) (hcl : conf.length = 16) (hd : Bs w (.slice a10 n10 c10) msg) (hml : msg.length = n10) (hn : n10 ≤ 1048576)
    (hus : us < 4294967296) (hf : f < 8) (hec : ec < 65536) (hfe : f / 2 % 2 = 1 ∨ ec = 0) (hrrc : rrc < 65536) (hsq : sq < 2 ^ 64) (hoff : -9223372036854775808 ≤ off ∧ off ≤ 9223372036854775807) (hnn : -9223372036854775808 ≤ nn ∧ nn ≤ 9223372036854775807) :
    ∃ L1 L2 KV SV SM sb o n L c, L1 = [.int .i64 kd, .int .i32 e, .slice ka (kl e) kc, .int .u32 us, .int .u16 id, .int .u8 f, .int .u16 ec, .int .u16 rrc, .int .u64 sq, .slice ca 16 cc, .slice a10 n10 c10, .bool fb, .int .i64 off, .int .i64 nn, .int .i64 room, .int .u8 fi] ∧ LC e f ec off nn w KV SV SM a10 n10 c10 L1 L2 sb o n L c := by
  have hx : decide (f / 2 % 2 = 1) = true ∨ ec = 0 := by simpa using hfe
  have hn0 : (0 : Int) ≤ off % 1048577 := Int.emod_nonneg _ (by decide)
  have hn1 : off % 1048577 < 1048577 := Int.emod_lt_of_pos _ (by decide)
  have hov := ovh_le (e := e) (sealed := decide (f / 2 % 2 = 1)) hec
  refine ⟨[.int .i64 kd, .int .i32 e, .slice ka (kl e) kc, .int .u32 us, .int .u16 id, .int .u8 f, .int .u16 ec, .int .u16 rrc, .int .u64 sq, .slice ca 16 cc, .slice a10 n10 c10, .bool fb, .int .i64 off, .int .i64 nn, .int .i64 room, .int .u8 fi], [.int .i64 kd, .int .i32 e, .slice ka (kl e) kc, .int .u32 us, .int .u16 id, .int .u8 ((f - f / 2 % 2 * 2 : Nat) : Int), .int .u16 0, .int .u16 0, .int .u64 sq, .slice ca 16 cc, .slice a10 n10 c10, .bool fb, .int .i64 off, .int .i64 nn, .int .i64 room, .int .u8 fi], .agg #[.int .i32 e, .slice ka (kl e) kc], .agg #[.int .u32 us, .int .u8 f, .int .u64 sq, .int .u16 ec, .int .u16 rrc, .slice ca 16 cc], .agg #[.int .u32 us, .int .u8 ((f - f / 2 % 2 * 2 : Nat) : Int), .int .u64 sq, .int .u16 0, .int .u16 0, .slice ca 16 cc], decide (f / 2 % 2 = 1), ovh e (decide (f / 2 % 2 = 1)) ec, (off % 1048577).toNat, lim e (decide (f / 2 % 2 = 1)) ec nn, cl e, rfl, ?_⟩
  refine ⟨hov, by omega, ?_, cl_le e, hn, fun Z => sealedQ_c f Z (by omega), ?_, ?_, ?_, ?_, ?_, ?_, ?_, ?_, ?_, ?_, ?_, ?_, ?_, ?_, ?_, ?_, ?_, rfl, rfl, ?_, ?_, rfl, rfl, rfl, rfl, rfl, rfl, rfl⟩
  · unfold lim; split
    · omega
    · split <;> omega
  · intro Z
    refine (place_c off 1048576 Z (by decide) (by decide) hoff.1 hoff.2).mono ?_
    rintro x w' ⟨rfl, k⟩
    exact ⟨ret_int (by rw [show (1048576 : Int) + 1 = 1048577 from rfl]; omega), k⟩
  · intro Z
    exact wrapLen_ok e _ ec _ Z hs hx hec (by omega)
  · intro m Z hm
    exact formulaQ_c e _ ec m Z hs hec hm
  · intro Z
    exact messageLen_ok e _ ec _ Z hs hx hec (by omega)
  · intro Z
    exact wrapLen_long e _ ec _ Z hs hx (by omega)
  · intro Z da kz
    by_cases h2 : f / 2 % 2 = 1
    · rw [decide_eq_true h2]
      refine (wrapS_c hs da ka (kl e) kc us f sq ec rrc ca 16 cc a10 n10 c10 key conf msg Z (hk.keep kz) hkl hus hf h2 hsq hec hrrc (hc.keep kz) hcl (hd.keep kz) hml hn).mono ?_
      rintro x w' ⟨g, t, rfl, -, -, -, -, k⟩
      exact ⟨⟨g, rfl⟩, k⟩
    · have he : ec = 0 := by omega
      subst he
      rw [decide_eq_false h2]
      refine (wrapU_c hs da ka (kl e) kc us f sq rrc ca 16 cc a10 n10 c10 key msg Z (hk.keep kz) hkl hus hf h2 hsq hrrc (hd.keep kz) hml hn).mono ?_
      rintro x w' ⟨g, t, rfl, -, -, -, -, k⟩
      exact ⟨⟨g, rfl⟩, k⟩
  · intro Z
    exact wrapSizeLimit_c e _ ec nn Z hs hx hec hnn.1 hnn.2
  · intro h0
    unfold lim at h0 ⊢
    split at h0
    · omega
    · rename_i ha
      rw [if_neg ha]
      split at h0
      · rename_i hb
        rw [if_pos hb]
        omega
      · rename_i hb
        rw [if_neg hb]
        omega
  · intro h0
    unfold lim at h0 ⊢
    split at h0
    · rename_i ha
      rw [if_pos ha]
      omega
    · rename_i ha
      rw [if_neg ha]
      split at h0
      · omega
      · rename_i hb
        rw [if_neg hb]
        omega
  · intro Z
    apply keyOf_c
  · intro Z
    apply sendOf_c
  · intro Z
    apply forMIC_c
    omega
  · intro Z
    apply keyOf_c
  · intro Z
    apply sendOf_c
  · intro Z da kz
    have hq : f - f / 2 % 2 * 2 < 8 := by omega
    have hq2 : ¬ (f - f / 2 % 2 * 2) / 2 % 2 = 1 := by omega
    refine (mic_c hs da ka (kl e) kc us (f - f / 2 % 2 * 2) sq ca 16 cc a10 n10 c10 key msg Z (hk.keep kz) hkl hus hq hq2 hsq (hd.keep kz) hml hn).mono ?_
    rintro x w' ⟨g, t, rfl, -, -, -, -, k⟩
    exact ⟨⟨g, rfl⟩, k⟩
  · intro Z
    exact checksumLen_c e Z
  · intro Z
    exact micLen_c e Z hs
  · simp [Value.oneCell']
  · simp [Value.oneCell']
/-- The step's cells out of the script. -/
theorem OpAt.lst {w : World} {b q : Nat} {s : OpR} (h : OpAt w b q s) : ∃ (L : List Value) (a2 a9 a10 : Option Addr) (c2 c9 c10 us f ec rrc sq : Nat) (id fi : Int),
    L = [.int .i64 s.kind, .int .i32 s.etype, .slice a2 s.key.length c2, .int .u32 us, .int .u16 id, .int .u8 f, .int .u16 ec, .int .u16 rrc, .int .u64 sq, .slice a9 s.conf.length c9, .slice a10 s.data.length c10, .bool s.fromAcc, .int .i64 s.off, .int .i64 s.n, .int .i64 s.room, .int .u8 fi] ∧
    w.rangeAt b q L ∧ us < 4294967296 ∧ f < 256 ∧ ec < 65536 ∧ rrc < 65536 ∧ sq < 2 ^ 64 ∧ Bs w (.slice a2 s.key.length c2) s.key ∧ Bs w (.slice a9 s.conf.length c9) s.conf ∧ Bs w (.slice a10 s.data.length c10) s.data := by
  obtain ⟨c0, c1, c2, c3, c4, c5, c6, c7, c8, c9, c10, c11, c12, c13, c14, c15, -, -, hb2, -, r3, r4, r5, r6, r7, r8, hb9, -, hb10, -, r12, r13, r14, r15⟩ := h
  obtain ⟨a2, d2, e2, -, -, -⟩ := hb2.form
  obtain ⟨a9, d9, e9, -, -, -⟩ := hb9.form
  obtain ⟨aD, dD, e10, -, -, -⟩ := hb10.form
  rw [e2] at c2 hb2
  rw [e9] at c9 hb9
  rw [e10] at c10 hb10
  obtain ⟨us, hus⟩ := Int.eq_ofNat_of_zero_le r3.1
  obtain ⟨f, hf⟩ := Int.eq_ofNat_of_zero_le r5.1
  obtain ⟨ec, hec⟩ := Int.eq_ofNat_of_zero_le r6.1
  obtain ⟨rrc, hrrc⟩ := Int.eq_ofNat_of_zero_le r7.1
  obtain ⟨sq, hsq⟩ := Int.eq_ofNat_of_zero_le r8.1
  rw [hus] at c3
  rw [hf] at c5
  rw [hec] at c6
  rw [hrrc] at c7
  rw [hsq] at c8
  refine ⟨_, a2, a9, aD, d2, d9, dD, us, f, ec, rrc, sq, s.id, s.fill, rfl, ?_, by omega, by omega, by omega, by omega, by omega, hb2, hb9, hb10⟩
  intro j v hv
  match j, hv with
  | 0, hv => simp at hv; subst hv; exact c0
  | 1, hv => simp at hv; subst hv; exact c1
  | 2, hv => simp at hv; subst hv; exact c2
  | 3, hv => simp at hv; subst hv; exact c3
  | 4, hv => simp at hv; subst hv; exact c4
  | 5, hv => simp at hv; subst hv; exact c5
  | 6, hv => simp at hv; subst hv; exact c6
  | 7, hv => simp at hv; subst hv; exact c7
  | 8, hv => simp at hv; subst hv; exact c8
  | 9, hv => simp at hv; subst hv; exact c9
  | 10, hv => simp at hv; subst hv; exact c10
  | 11, hv => simp at hv; subst hv; exact c11
  | 12, hv => simp at hv; subst hv; exact c12
  | 13, hv => simp at hv; subst hv; exact c13
  | 14, hv => simp at hv; subst hv; exact c14
  | 15, hv => simp at hv; subst hv; exact c15
  | j + 16, hv => simp at hv
end Go.Proofs.Qxb6500771aGreat
