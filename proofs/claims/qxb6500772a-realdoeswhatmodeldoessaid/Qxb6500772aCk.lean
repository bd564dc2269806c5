/- circuitm: the values: Word, Bit. -/
import Derived.Test.Qxb6500772aCj
namespace Go.Proofs.Qxb6500772a
open Go.RowKit Go.Qm
set_option linter.unusedVariables false
set_option linter.unusedSimpArgs false
attribute [local go_sem ↓] Go.wp_at_zero Go.wp_at_succ
def uv (n : Nat) : Value := .int .u64 (n : Nat)
/-- The values of the gates, in memory. -/
def Vs (w : World) (v : Value) (vs : List Nat) : Prop := Sl w v (vs.map uv)
theorem Vs.form {w : World} {v : Value} {vs : List Nat} (h : Vs w v vs) : ∃ a c, v = .slice a vs.length c ∧ vs.length ≤ c ∧ c ≤ maxLen := by
  obtain ⟨a, c, e, h1, h2, -⟩ := h
  rw [List.length_map] at e h1
  exact ⟨a, c, e, h1, h2⟩
theorem Vs.cell {w : World} {a : Option Addr} {m c : Nat} {vs : List Nat} (h : Vs w (.slice a m c) vs) {i : Nat} (hi : i < vs.length) : ∃ b o, a = some ⟨b, o, none⟩ ∧ w.cell? ⟨b, o + i, none⟩ = some (.int .u64 (vs[i] : Nat)) := by
  obtain ⟨a', c', e, -, -, h3⟩ := h
  injection e with e1 _ _
  subst e1
  exact h3 i _ (by simp [hi, uv])
theorem Wd.form {w : World} {v : Value} {l : List Nat} (h : Wd w v l) : ∃ a c, v = .slice a l.length c ∧ l.length ≤ c ∧ c ≤ maxLen := by
  obtain ⟨a, c, e, h1, h2, -⟩ := h
  rw [List.length_map] at e h1
  exact ⟨a, c, e, h1, h2⟩
theorem Wd.cell {w : World} {a : Option Addr} {m c : Nat} {l : List Nat} (h : Wd w (.slice a m c) l) {i : Nat} (hi : i < l.length) : ∃ b o, a = some ⟨b, o, none⟩ ∧ w.cell? ⟨b, o + i, none⟩ = some (.int .i64 (l[i] : Nat)) := by
  obtain ⟨a', c', e, -, -, h3⟩ := h
  injection e with e1 _ _
  subst e1
  exact h3 i _ (by simp [hi, bv])
theorem wordN_take {vs l : List Nat} (h : ∀ b ∈ l, vs.getD b 0 ≤ 1) : ∀ k, wordN vs (l.take k) < 2 ^ k := by
  intro k
  induction k generalizing l with
  | zero => simp [wordN]
  | succ k ih =>
    cases l with
    | nil => simp [wordN]; exact Nat.two_pow_pos _
    | cons b l =>
      have h1 := ih (l := l) (fun b hb => h b (by simp [hb]))
      have h2 := h b (by simp)
      simp only [List.take_succ_cons, wordN, Nat.pow_succ]
      omega
theorem wordN_succ {vs l : List Nat} : ∀ k (hk : k < l.length), wordN vs (l.take (k + 1)) = wordN vs (l.take k) + vs.getD l[k] 0 * 2 ^ k := by
  intro k
  induction k generalizing l with
  | zero =>
    intro hk
    cases l with
    | nil => simp at hk
    | cons b l => simp [wordN]
  | succ k ih =>
    intro hk
    cases l with
    | nil => simp at hk
    | cons b l =>
      have := ih (l := l) (by simpa using hk)
      simp only [List.take_succ_cons, wordN, List.getElem_cons_succ] at this ⊢
      rw [this, Nat.mul_add, Nat.add_assoc, Nat.pow_succ]
      congr 2
      rw [← Nat.mul_assoc, Nat.mul_comm 2, Nat.mul_assoc, Nat.mul_comm 2]
theorem orstep {n v k : Nat} (hn : n < 2 ^ k) (hv : v ≤ 1) (hk : k < 64) : bits .or .u64 (n : Int) (IntKind.u64.wrap ((v : Int) * 2 ^ k)) = ((n + v * 2 ^ k : Nat) : Int) := by
  have h1 : 2 ^ k ≤ 2 ^ 63 := Nat.pow_le_pow_right (by decide) (by omega)
  have h2 : v * 2 ^ k ≤ 2 ^ 63 := by
    calc v * 2 ^ k ≤ 1 * 2 ^ k := Nat.mul_le_mul_right _ hv
      _ ≤ 2 ^ 63 := by omega
  have e : (v : Int) * 2 ^ k = ((v * 2 ^ k : Nat) : Int) := by push_cast; rfl
  rw [e, wrap_u64' _ (by omega), bits_or_u64 _ _ (by omega) (by omega), Nat.or_comm, or_add _ _ _ hn, Nat.add_comm]
set_option maxRecDepth 4000 in
set_option maxHeartbeats 4000000 in
theorem word_v {w : World} {vv wv : Value} {vs l : List Nat} (hv : Vs w vv vs) (hl : Wd w wv l) (h64 : l.length ≤ 64) (hb : ∀ b ∈ l, b < vs.length ∧ vs.getD b 0 ≤ 1) : Calls Try.prog 35 #[vv, wv] w fun e w' => e = .returned (.int .u64 ((wordN vs l : Nat) : Int)) ∧ w' = w := by
  have HV := Hid.mk hv
  have HLL := Hid.mk hl
  have HB := Hid.mk hb
  have H64 := Hid.mk h64
  obtain ⟨va, vc, hvv, v1, v2⟩ := hv.form
  obtain ⟨la, lc, hlv, l1, l2⟩ := hl.form
  subst hvv hlv
  have hli : (l.length : Int) ≤ 64 := by omega
  unfold maxLen at v2 l2
  clear hv hl hb h64
  go_enter Try.func35, Try.ntmps35
  go_wp2_with fail
  go_loopg [5, 6, 7, 10] l.length (fun gk v5 v6 v7 v10 wr => ∃ (k : Nat), k + gk = l.length ∧ wr = w ∧ v10 = .int .i64 k ∧ v5 = .int .u64 ((wordN vs (l.take k) : Nat) : Int))
  case atStart => exact ⟨0, by omega, rfl, rfl, rfl⟩
  case round =>
    obtain ⟨k, hk, hwr, rfl, rfl⟩ := hrel
    subst hwr
    have HK := Hid.mk hk
    by_cases hlt : k < l.length
    · have i1 : (k : Int) < l.length := by omega
      have i2 : (0 : Int) ≤ k := by omega
      obtain ⟨b, o, hla, hc⟩ := HLL.out.cell hlt
      subst hla
      have hb := HB.out l[k] (List.getElem_mem hlt)
      have OS := orstep (wordN_take (fun b hb => (HB.out b hb).2) k) hb.2 (show k < 64 by have := H64.out; omega)
      have HN : Hid (wordN vs (l.take (k + 1)) = wordN vs (l.take k) + vs.getD l[k] 0 * 2 ^ k) := Hid.mk (wordN_succ k hlt)
      generalize l[k] = lk at *
      have hb1 := hb.1
      have hd : vs.getD lk 0 = vs[lk] := by simp [List.getD_eq_getElem?_getD, hb1]
      obtain ⟨b', o', hva, hc'⟩ := HV.out.cell hb1
      subst hva
      rw [← hd] at hc'
      have hbi : (lk : Int) < vs.length := by omega
      have hbi0 : (0 : Int) ≤ lk := by omega
      generalize vs.getD lk 0 = vk at *
      generalize wordN vs (l.take k) = nn at *
      have HOS := Hid.mk OS
      clear hk hb hb1 hd OS
      go_wp2_with fail
      go_roundg (gk - 1)
      case measure => have := HK.out; omega
      case rel => exact ⟨k + 1, by have := HK.out; omega, rfl, by go_num, by rw [HN.out, ← HOS.out]⟩
    · have i1 : ¬ (k : Int) < l.length := by omega
      obtain rfl : k = l.length := by omega
      clear hk
      rw [List.take_length]
      go_wp2_with fail
      go_ret
      exact ⟨rfl, rfl⟩
theorem bit_v {w : World} {vv : Value} {vs : List Nat} (hv : Vs w vv vs) {b : Nat} (hb : b < vs.length) {r : Bool} (hr : vs.getD b 0 = r.toNat) : Calls Try.prog 42 #[vv, .int .i64 (b : Nat)] w fun e w' => e = .returned (.bool r) ∧ w' = w := by
  obtain ⟨va, vc, hvv, v1, v2⟩ := hv.form
  subst hvv
  obtain ⟨b', o', hva, hc'⟩ := hv.cell hb
  subst hva
  have hd : vs.getD b 0 = vs[b] := by simp [List.getD_eq_getElem?_getD, hb]
  rw [← hd, hr] at hc'
  have hbi : (b : Int) < vs.length := by omega
  have hbi0 : (0 : Int) ≤ b := by omega
  unfold maxLen at v2
  clear hv hd hr hb
  cases r
  · simp only [Bool.toNat_false] at hc'
    go_enter Try.func42, Try.ntmps42
    go_wp2_with fail
    go_ret
    exact ⟨rfl, rfl⟩
  · simp only [Bool.toNat_true] at hc'
    go_enter Try.func42, Try.ntmps42
    go_wp2_with fail
    go_ret
    exact ⟨rfl, rfl⟩
end Go.Proofs.Qxb6500772a
