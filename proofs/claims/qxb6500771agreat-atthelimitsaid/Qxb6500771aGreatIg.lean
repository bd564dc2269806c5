/- token: CipherLen, overhead, checkShape, WrapLen, MessageLen, WrapSizeLimit, MICLen; tokenlaw.formula. -/
import Derived.Test.Qxb6500771aGreatIa
namespace Go.Proofs.Qxb6500771aGreat
open Go.RowKit Go.Qm
set_option linter.unusedVariables false
set_option linter.unusedSimpArgs false
attribute [local go_sem ↓] Go.wp_at_zero Go.wp_at_succ
/-- What a token is longer than its message. -/
def ovh (e : Int) (sealed : Bool) (ec : Nat) : Nat := if sealed then 16 + (16 + (ec + 16) + cl e) else 16 + cl e
theorem ovh_le {e : Int} {sealed : Bool} {ec : Nat} (h : ec < 65536) : ovh e sealed ec ≤ 70000 := by
  have := cl_le e
  unfold ovh; split <;> omega
theorem cipherLen_c (e : Int) (n : Nat) (w : World) (h : srv e) (hn : n ≤ 2000000) : Calls Tryz.prog 43 #[.int .i32 e, .int .i64 n] w fun x w' => x = .returned (.int .i64 ((16 + n + cl e : Nat) : Int)) ∧ Keep w w' := by
  have hc := cl_le e
  have x1 : IntKind.i64.wrap (16 + (n : Int)) = 16 + (n : Int) := by rw [IntKind.wrap_i64]; omega
  have x2 : IntKind.i64.wrap (16 + (n : Int) + (cl e : Int)) = ((16 + n + cl e : Nat) : Int) := by rw [IntKind.wrap_i64]; omega
  have HS := Hid.mk h
  clear h
  go_enter Tryz.func43, Tryz.ntmps43
  go_wp2_with fail
  refine (confounderLen_c e w HS.out).mono ?_
  rintro x w1 ⟨rfl, k1⟩
  go_wp2_with fail
  refine (checksumLen_c e w1).mono ?_
  rintro x w2 ⟨rfl, k2⟩
  go_wp2_with fail
  go_ret
  exact ⟨ret_int (by omega), k1.trans k2⟩
theorem overhead_c (e : Int) (a b : Value) (sealed : Bool) (ec : Nat) (w : World) (h : srv e) (hec : ec < 65536) :
    Calls Tryz.prog 34 #[.int .i32 e, .agg #[a, b, .int .i64 (cl e)], .bool sealed, .int .u16 ec] w fun x w' => x = .returned (.int .i64 (ovh e sealed ec)) ∧ Keep w w' := by
  have hc := cl_le e
  have HS := Hid.mk h
  have x1 : IntKind.i64.wrap (ec : Int) = ec := by rw [IntKind.wrap_i64]; omega
  have x2 : IntKind.i64.wrap ((ec : Int) + 16) = ((ec + 16 : Nat) : Int) := by rw [IntKind.wrap_i64]; omega
  have kW := (Keep.refl w).alloc (.cells #[a, b, .int .i64 (cl e)] 69)
  clear h
  cases sealed with
  | true =>
    have HO : Hid (((16 : Int) + ((16 + (ec + 16) + cl e : Nat) : Int)) = (ovh e true ec : Int)) := Hid.mk (by unfold ovh; rw [if_pos rfl]; omega)
    have HC := Hid.mk (cipherLen_c e (ec + 16) (w.alloc (.cells #[a, b, .int .i64 (cl e)] 69)) HS.out (by omega))
    have x3 : IntKind.i64.wrap (16 + ((16 + (ec + 16) + cl e : Nat) : Int)) = 16 + ((16 + (ec + 16) + cl e : Nat) : Int) := by rw [IntKind.wrap_i64]; omega
    go_enter Tryz.func34, Tryz.ntmps34
    go_wp2_with fail
    refine HC.out.mono ?_
    rintro x w1 ⟨rfl, k1⟩
    go_wp2_with fail
    go_ret
    exact ⟨ret_int (by have := HO.out; omega), kW.trans k1⟩
  | false =>
    have HO : Hid (((16 : Int) + (cl e : Int)) = (ovh e false ec : Int)) := Hid.mk (by unfold ovh; rw [if_neg (by decide)]; omega)
    have x3 : IntKind.i64.wrap (16 + (cl e : Int)) = 16 + (cl e : Int) := by rw [IntKind.wrap_i64]; omega
    go_enter Tryz.func34, Tryz.ntmps34
    go_wp2_with fail
    go_ret
    exact ⟨ret_int (by have := HO.out; omega), kW⟩
set_option maxHeartbeats 1000000 in
theorem checkShape_ok (e : Int) (sealed : Bool) (ec : Nat) (w : World) (hs : srv e) (hx : sealed = true ∨ ec = 0) :
    Calls Tryz.prog 33 #[.int .i32 e, .bool sealed, .int .u16 ec] w fun x w' => x = .returned (.tuple #[.agg #[.int .i64 (kl e), .int .i64 16, .int .i64 (cl e)], .int .i64 0]) ∧ Keep w w' := by
  have A0 := Arr.new w 69 zer3
  have K0 := (Keep.refl w).alloc (.cells zer3.toArray 69)
  have SO := fun W => sizesOf_ok e W hs
  generalize kl e = a at *
  generalize cl e = b at *
  cases sealed with
  | true =>
    clear hx
    go_enter Tryz.func33, Tryz.ntmps33
    go_wp2_with fail
    refine (SO _).mono ?_
    rintro x w1 ⟨rfl, k1⟩
    have A1 := (A0.keep k1).keep ((Keep.refl w1).alloc (.cells #[.int .i64 a, .int .i64 16, .int .i64 b] 69))
    have K1 := (K0.trans k1).alloc (.cells #[.int .i64 a, .int .i64 16, .int .i64 b] 69)
    go_wp2_with (refine wpList_store_rowN (by rfl) 69 (.tmp 6) (.tmp 26) (by rfl) (w.heap.size) [.int .i64 a, .int .i64 16, .int .i64 b].toArray (by rfl) (by rfl) 3 69 _ A1 s69 (by rfl) (by rfl) (by simp [Value.oneCell']) ?_)
    have AR := A1.row [.int .i64 a, .int .i64 16, .int .i64 b]
    have r0 := AR.cell 0
    have r1 := AR.cell 1
    have r2 := AR.cell 2
    simp only [List.getElem?_cons_zero, List.getElem?_cons_succ] at r0 r1 r2
    refine bodyPost_ret (v := .tuple #[.agg #[.int .i64 a, .int .i64 16, .int .i64 b], .int .i64 0]) (by simp [results, Tryz.results33, go_sem, r0, r1, r2]) rfl ⟨rfl, K1.setRow (by omega) _⟩
  | false =>
    have hec : ec = 0 := by simpa using hx
    subst hec
    clear hx
    go_enter Tryz.func33, Tryz.ntmps33
    go_wp2_with fail
    refine (SO _).mono ?_
    rintro x w1 ⟨rfl, k1⟩
    have A1 := (A0.keep k1).keep ((Keep.refl w1).alloc (.cells #[.int .i64 a, .int .i64 16, .int .i64 b] 69))
    have K1 := (K0.trans k1).alloc (.cells #[.int .i64 a, .int .i64 16, .int .i64 b] 69)
    go_wp2_with (refine wpList_store_rowN (by rfl) 69 (.tmp 6) (.tmp 26) (by rfl) (w.heap.size) [.int .i64 a, .int .i64 16, .int .i64 b].toArray (by rfl) (by rfl) 3 69 _ A1 s69 (by rfl) (by rfl) (by simp [Value.oneCell']) ?_)
    have AR := A1.row [.int .i64 a, .int .i64 16, .int .i64 b]
    have r0 := AR.cell 0
    have r1 := AR.cell 1
    have r2 := AR.cell 2
    simp only [List.getElem?_cons_zero, List.getElem?_cons_succ] at r0 r1 r2
    refine bodyPost_ret (v := .tuple #[.agg #[.int .i64 a, .int .i64 16, .int .i64 b], .int .i64 0]) (by simp [results, Tryz.results33, go_sem, r0, r1, r2]) rfl ⟨rfl, K1.setRow (by omega) _⟩
theorem wrapLen_ok (e : Int) (sealed : Bool) (ec n : Nat) (w : World) (hs : srv e) (hx : sealed = true ∨ ec = 0) (hec : ec < 65536) (hn : n ≤ 1048576) :
    Calls Tryz.prog 10 #[.int .i32 e, .bool sealed, .int .u16 ec, .int .i64 n] w fun x w' => x = .returned (.tuple #[.int .i64 ((ovh e sealed ec + n : Nat) : Int), .int .i64 0]) ∧ Keep w w' := by
  have HO := Hid.mk (fun W => overhead_c e (.int .i64 (kl e)) (.int .i64 16) sealed ec W hs hec)
  have hov := ovh_le (e := e) (sealed := sealed) hec
  have x1 : IntKind.i64.wrap ((ovh e sealed ec : Int) + n) = ((ovh e sealed ec + n : Nat) : Int) := by rw [IntKind.wrap_i64]; omega
  have x2 : ¬ (n : Int) < 0 := by omega
  have x3 : ¬ (n : Int) > 1048576 := by omega
  have CS := Hid.mk (checkShape_ok e sealed ec w hs hx)
  clear hn hx
  go_enter Tryz.func10, Tryz.ntmps10
  go_wp2_with fail
  refine CS.out.mono ?_
  rintro x w1 ⟨rfl, k1⟩
  have kk := (Keep.refl w1).alloc (.cells #[.int .i64 (kl e), .int .i64 16, .int .i64 (cl e)] 69)
  go_wp2_with fail
  refine (HO.out _).mono ?_
  rintro x w2 ⟨rfl, k2⟩
  go_wp2_with fail
  go_ret2
  exact ⟨rfl, (k1.trans kk).trans k2⟩
theorem wrapLen_long (e : Int) (sealed : Bool) (ec n : Nat) (w : World) (hs : srv e) (hx : sealed = true ∨ ec = 0) (hn : 1048576 < n) :
    Calls Tryz.prog 10 #[.int .i32 e, .bool sealed, .int .u16 ec, .int .i64 n] w fun x w' => x = .returned (.tuple #[.int .i64 0, .int .i64 4]) ∧ Keep w w' := by
  have x2 : ¬ (n : Int) < 0 := by omega
  have x3 : (n : Int) > 1048576 := by omega
  have CS := Hid.mk (checkShape_ok e sealed ec w hs hx)
  clear hn hx
  go_enter Tryz.func10, Tryz.ntmps10
  go_wp2_with fail
  refine CS.out.mono ?_
  rintro x w1 ⟨rfl, k1⟩
  have kk := (Keep.refl w1).alloc (.cells #[.int .i64 (kl e), .int .i64 16, .int .i64 (cl e)] 69)
  go_wp2_with fail
  go_ret2
  exact ⟨rfl, k1.trans kk⟩
theorem messageLen_ok (e : Int) (sealed : Bool) (ec n : Nat) (w : World) (hs : srv e) (hx : sealed = true ∨ ec = 0) (hec : ec < 65536) (hn : n ≤ 1048576) :
    Calls Tryz.prog 12 #[.int .i32 e, .bool sealed, .int .u16 ec, .int .i64 ((ovh e sealed ec + n : Nat) : Int)] w fun x w' => x = .returned (.tuple #[.int .i64 n, .int .i64 0]) ∧ Keep w w' := by
  have HO := Hid.mk (fun W => overhead_c e (.int .i64 (kl e)) (.int .i64 16) sealed ec W hs hec)
  have hov := ovh_le (e := e) (sealed := sealed) hec
  obtain ⟨m, hm⟩ : ∃ m, m = ovh e sealed ec + n := ⟨_, rfl⟩
  rw [← hm]
  have x1 : IntKind.i64.wrap ((m : Int) - (ovh e sealed ec : Int)) = (n : Int) := by rw [IntKind.wrap_i64]; omega
  have x0 : ¬ (m : Int) < 0 := by omega
  have x2 : ¬ (n : Int) < 0 := by omega
  have x3 : ¬ (n : Int) > 1048576 := by omega
  have CS := Hid.mk (checkShape_ok e sealed ec w hs hx)
  clear hn hx hm hov
  go_enter Tryz.func12, Tryz.ntmps12
  go_wp2_with fail
  refine CS.out.mono ?_
  rintro x w1 ⟨rfl, k1⟩
  have kk := (Keep.refl w1).alloc (.cells #[.int .i64 (kl e), .int .i64 16, .int .i64 (cl e)] 69)
  go_wp2_with fail
  refine (HO.out _).mono ?_
  rintro x w2 ⟨rfl, k2⟩
  go_wp2_with fail
  go_ret2
  exact ⟨rfl, (k1.trans kk).trans k2⟩
/-- The wrap size limit. -/
def lim (e : Int) (sealed : Bool) (ec : Nat) (size : Int) : Nat := if size ≤ ovh e sealed ec then 0 else if size - ovh e sealed ec > 1048576 then 1048576 else (size - ovh e sealed ec).toNat
theorem wrapSizeLimit_c (e : Int) (sealed : Bool) (ec : Nat) (size : Int) (w : World) (hs : srv e) (hx : sealed = true ∨ ec = 0) (hec : ec < 65536) (h1 : -9223372036854775808 ≤ size) (h2 : size ≤ 9223372036854775807) :
    Calls Tryz.prog 16 #[.int .i32 e, .bool sealed, .int .u16 ec, .int .i64 size] w fun x w' => x = .returned (.tuple #[.int .i64 (lim e sealed ec size), .int .i64 0]) ∧ Keep w w' := by
  have HO := Hid.mk (fun W => overhead_c e (.int .i64 (kl e)) (.int .i64 16) sealed ec W hs hec)
  have hov := ovh_le (e := e) (sealed := sealed) hec
  have HL : Hid (lim e sealed ec size = if size ≤ ovh e sealed ec then 0 else if size - ovh e sealed ec > 1048576 then 1048576 else (size - ovh e sealed ec).toNat) := Hid.mk rfl
  have CS := Hid.mk (checkShape_ok e sealed ec w hs hx)
  generalize ovh e sealed ec = o at *
  generalize lim e sealed ec size = L at *
  by_cases a1 : size ≤ o
  · have HE := Hid.mk (show L = 0 by rw [HL.out, if_pos a1])
    clear hx
    go_enter Tryz.func16, Tryz.ntmps16
    go_wp2_with fail
    refine CS.out.mono ?_
    rintro x w1 ⟨rfl, k1⟩
    have kk := (Keep.refl w1).alloc (.cells #[.int .i64 (kl e), .int .i64 16, .int .i64 (cl e)] 69)
    go_wp2_with fail
    refine (HO.out _).mono ?_
    rintro x w2 ⟨rfl, k2⟩
    go_wp2_with fail
    go_ret2
    exact ⟨by rw [HE.out]; rfl, (k1.trans kk).trans k2⟩
  · have x1 : IntKind.i64.wrap (size - (o : Int)) = size - (o : Int) := by rw [IntKind.wrap_i64]; omega
    by_cases a2 : size - o > 1048576
    · have HE := Hid.mk (show L = 1048576 by rw [HL.out, if_neg a1, if_pos a2])
      clear hx
      go_enter Tryz.func16, Tryz.ntmps16
      go_wp2_with fail
      refine CS.out.mono ?_
      rintro x w1 ⟨rfl, k1⟩
      have kk := (Keep.refl w1).alloc (.cells #[.int .i64 (kl e), .int .i64 16, .int .i64 (cl e)] 69)
      go_wp2_with fail
      refine (HO.out _).mono ?_
      rintro x w2 ⟨rfl, k2⟩
      go_wp2_with fail
      go_ret2
      exact ⟨by rw [HE.out]; rfl, (k1.trans kk).trans k2⟩
    · have HE := Hid.mk (show (L : Int) = size - o by rw [HL.out, if_neg a1, if_neg a2]; omega)
      clear hx
      go_enter Tryz.func16, Tryz.ntmps16
      go_wp2_with fail
      refine CS.out.mono ?_
      rintro x w1 ⟨rfl, k1⟩
      have kk := (Keep.refl w1).alloc (.cells #[.int .i64 (kl e), .int .i64 16, .int .i64 (cl e)] 69)
      go_wp2_with fail
      refine (HO.out _).mono ?_
      rintro x w2 ⟨rfl, k2⟩
      go_wp2_with fail
      go_ret2
      exact ⟨by rw [HE.out]; rfl, (k1.trans kk).trans k2⟩
theorem micLen_c (e : Int) (w : World) (hs : srv e) : Calls Tryz.prog 20 #[.int .i32 e] w fun x w' => x = .returned (.tuple #[.int .i64 ((16 + cl e : Nat) : Int), .int .i64 0]) ∧ Keep w w' := by
  have hc := cl_le e
  have x1 : IntKind.i64.wrap (16 + (cl e : Int)) = ((16 + cl e : Nat) : Int) := by rw [IntKind.wrap_i64]; omega
  have CS := Hid.mk (sizesOf_ok e w hs)
  go_enter Tryz.func20, Tryz.ntmps20
  go_wp2_with fail
  refine CS.out.mono ?_
  rintro x w1 ⟨rfl, k1⟩
  have kk := (Keep.refl w1).alloc (.cells #[.int .i64 (kl e), .int .i64 16, .int .i64 (cl e)] 69)
  go_wp2_with fail
  go_ret2
  exact ⟨rfl, k1.trans kk⟩
theorem formula_c (e : Int) (sealed : Bool) (ec n : Nat) (w : World) (hs : srv e) (hec : ec < 65536) (hn : n ≤ 2000000) :
    Calls Tryz.prog 11 #[.int .i32 e, .bool sealed, .int .u16 ec, .int .i64 n] w fun x w' => x = .returned (.int .i64 ((ovh e sealed ec + n : Nat) : Int)) ∧ Keep w w' := by
  have hc := cl_le e
  have HS := Hid.mk hs
  clear hs
  cases sealed with
  | true =>
    have HO : Hid ((16 : Int) + 16 + n + ec + 16 + cl e = ((ovh e true ec + n : Nat) : Int)) := Hid.mk (by unfold ovh; rw [if_pos rfl]; omega)
    have x0 : IntKind.i64.wrap (ec : Int) = ec := by rw [IntKind.wrap_i64]; omega
    have x1 : IntKind.i64.wrap (32 + (n : Int)) = 32 + (n : Int) := by rw [IntKind.wrap_i64]; omega
    have x2 : IntKind.i64.wrap (32 + (n : Int) + ec) = 32 + (n : Int) + ec := by rw [IntKind.wrap_i64]; omega
    have x3 : IntKind.i64.wrap (32 + (n : Int) + ec + 16) = 32 + (n : Int) + ec + 16 := by rw [IntKind.wrap_i64]; omega
    have x4 : IntKind.i64.wrap (32 + (n : Int) + ec + 16 + cl e) = 32 + (n : Int) + ec + 16 + cl e := by rw [IntKind.wrap_i64]; omega
    go_enter Tryz.func11, Tryz.ntmps11
    go_wp2_with fail
    refine (confounderLen_c e w HS.out).mono ?_
    rintro x w1 ⟨rfl, k1⟩
    go_wp2_with fail
    refine (checksumLen_c e w1).mono ?_
    rintro x w2 ⟨rfl, k2⟩
    go_wp2_with fail
    go_ret
    exact ⟨ret_int (by have := HO.out; omega), k1.trans k2⟩
  | false =>
    have HO : Hid ((16 : Int) + n + cl e = ((ovh e false ec + n : Nat) : Int)) := Hid.mk (by unfold ovh; rw [if_neg (by decide)]; omega)
    have x1 : IntKind.i64.wrap (16 + (n : Int)) = 16 + (n : Int) := by rw [IntKind.wrap_i64]; omega
    have x2 : IntKind.i64.wrap (16 + (n : Int) + cl e) = 16 + (n : Int) + cl e := by rw [IntKind.wrap_i64]; omega
    go_enter Tryz.func11, Tryz.ntmps11
    go_wp2_with fail
    refine (checksumLen_c e w).mono ?_
    rintro x w2 ⟨rfl, k2⟩
    go_wp2_with fail
    go_ret
    exact ⟨ret_int (by have := HO.out; omega), k2⟩
end Go.Proofs.Qxb6500771aGreat
