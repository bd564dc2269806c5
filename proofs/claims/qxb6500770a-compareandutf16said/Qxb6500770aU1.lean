/- octets.lead, scalar, UTF16Len: their contracts. -/
import Derived.Test.Qxb6500770aBase
import Derived.Test.Qxb6500770aUtf
namespace Go.Proofs.Qxb6500770a
open Go.RowKit Go.Qm
set_option linter.unusedVariables false
set_option linter.unusedSimpArgs false

/-- The table of first octets: how many follow, and the bounds of the next. -/
def leadT (c : Nat) : Int × Nat × Nat :=
  if c < 128 then (0, 0, 0) else if c < 194 then (-1, 0, 0) else if c < 224 then (1, 128, 191) else if c = 224 then (2, 160, 191) else if c = 237 then (2, 128, 159)
  else if c < 240 then (2, 128, 191) else if c = 240 then (3, 144, 191) else if c < 244 then (3, 128, 191) else if c = 244 then (3, 128, 143) else (-1, 0, 0)

theorem leadT_a {c : Nat} (h1 : c < 128) : leadT c = (0, 0, 0) := by
  unfold leadT; rw [if_pos (by omega)]
theorem leadT_b {c : Nat} (h1 : 128 ≤ c) (h2 : c < 194) : leadT c = (-1, 0, 0) := by
  unfold leadT; rw [if_neg (by omega), if_pos (by omega)]
theorem leadT_c {c : Nat} (h1 : 194 ≤ c) (h2 : c < 224) : leadT c = (1, 128, 191) := by
  unfold leadT; rw [if_neg (by omega), if_neg (by omega), if_pos (by omega)]
theorem leadT_d {c : Nat} (h1 : c = 224) : leadT c = (2, 160, 191) := by
  unfold leadT; rw [if_neg (by omega), if_neg (by omega), if_neg (by omega), if_pos (by omega)]
theorem leadT_e {c : Nat} (h1 : c = 237) : leadT c = (2, 128, 159) := by
  unfold leadT; rw [if_neg (by omega), if_neg (by omega), if_neg (by omega), if_neg (by omega), if_pos (by omega)]
theorem leadT_f {c : Nat} (h1 : 224 ≤ c) (h2 : c < 240) (h3 : c ≠ 224) (h4 : c ≠ 237) : leadT c = (2, 128, 191) := by
  unfold leadT; rw [if_neg (by omega), if_neg (by omega), if_neg (by omega), if_neg (by omega), if_neg (by omega), if_pos (by omega)]
theorem leadT_g {c : Nat} (h1 : c = 240) : leadT c = (3, 144, 191) := by
  unfold leadT; rw [if_neg (by omega), if_neg (by omega), if_neg (by omega), if_neg (by omega), if_neg (by omega), if_neg (by omega), if_pos (by omega)]
theorem leadT_h {c : Nat} (h1 : 240 < c) (h2 : c < 244) : leadT c = (3, 128, 191) := by
  unfold leadT; rw [if_neg (by omega), if_neg (by omega), if_neg (by omega), if_neg (by omega), if_neg (by omega), if_neg (by omega), if_neg (by omega), if_pos (by omega)]
theorem leadT_i {c : Nat} (h1 : c = 244) : leadT c = (3, 128, 143) := by
  unfold leadT; rw [if_neg (by omega), if_neg (by omega), if_neg (by omega), if_neg (by omega), if_neg (by omega), if_neg (by omega), if_neg (by omega), if_neg (by omega), if_pos (by omega)]
theorem leadT_j {c : Nat} (h1 : 244 < c) : leadT c = (-1, 0, 0) := by
  unfold leadT; rw [if_neg (by omega), if_neg (by omega), if_neg (by omega), if_neg (by omega), if_neg (by omega), if_neg (by omega), if_neg (by omega), if_neg (by omega), if_neg (by omega)]
theorem tup3 {k1 k2 k3 : IntKind} {a b c a' b' c' : Int} (h1 : a = a') (h2 : b = b') (h3 : c = c') : Ending.returned (.tuple #[.int k1 a, .int k2 b, .int k3 c]) = .returned (.tuple #[.int k1 a', .int k2 b', .int k3 c']) := by rw [h1, h2, h3]
theorem tup2 {k1 k2 : IntKind} {a b a' b' : Int} (h1 : a = a') (h2 : b = b') : Ending.returned (.tuple #[.int k1 a, .int k2 b]) = .returned (.tuple #[.int k1 a', .int k2 b']) := by rw [h1, h2]

set_option maxRecDepth 10000 in
set_option maxHeartbeats 1000000 in
theorem lead_c (c : Nat) (hc : c < 256) (w : World) : Calls Try.prog 30 #[.int .u8 c] w fun e w' => e = .returned (.tuple #[.int .i64 (leadT c).1, .int .u8 (leadT c).2.1, .int .u8 (leadT c).2.2]) ∧ w' = w := by
  go_enter Try.func30, Try.ntmps30
  go_wp2
  all_goals
    go_ret3
    go_tidy
    refine ⟨?_, rfl⟩
    simp only [beq_iff_eq, beq_eq_false_iff_ne, ne_eq] at *
    first
      | exact tup3 (by rw [leadT_a (by omega)]) (by rw [leadT_a (by omega)]; rfl) (by rw [leadT_a (by omega)]; rfl)
      | exact tup3 (by rw [leadT_b (by omega) (by omega)]) (by rw [leadT_b (by omega) (by omega)]; rfl) (by rw [leadT_b (by omega) (by omega)]; rfl)
      | exact tup3 (by rw [leadT_c (by omega) (by omega)]) (by rw [leadT_c (by omega) (by omega)]; rfl) (by rw [leadT_c (by omega) (by omega)]; rfl)
      | exact tup3 (by rw [leadT_d (by omega)]) (by rw [leadT_d (by omega)]; rfl) (by rw [leadT_d (by omega)]; rfl)
      | exact tup3 (by rw [leadT_e (by omega)]) (by rw [leadT_e (by omega)]; rfl) (by rw [leadT_e (by omega)]; rfl)
      | exact tup3 (by rw [leadT_f (by omega) (by omega) (by omega) (by omega)]) (by rw [leadT_f (by omega) (by omega) (by omega) (by omega)]; rfl) (by rw [leadT_f (by omega) (by omega) (by omega) (by omega)]; rfl)
      | exact tup3 (by rw [leadT_g (by omega)]) (by rw [leadT_g (by omega)]; rfl) (by rw [leadT_g (by omega)]; rfl)
      | exact tup3 (by rw [leadT_h (by omega) (by omega)]) (by rw [leadT_h (by omega) (by omega)]; rfl) (by rw [leadT_h (by omega) (by omega)]; rfl)
      | exact tup3 (by rw [leadT_i (by omega)]) (by rw [leadT_i (by omega)]; rfl) (by rw [leadT_i (by omega)]; rfl)
      | exact tup3 (by rw [leadT_j (by omega)]) (by rw [leadT_j (by omega)]; rfl) (by rw [leadT_j (by omega)]; rfl)

/-- What scalar returns. -/
def scalarV (s : List UInt8) : Int × Int := match dec s with | some (c, w) => (c, w) | none => (0, 0)

theorem and63 : ∀ n : Fin 256, bits .and .u8 (n.val : Int) 63 = ((n.val % 64 : Nat) : Int) := by decide +kernel
theorem and31 : ∀ n : Fin 256, bits .and .u8 (n.val : Int) 31 = ((n.val % 32 : Nat) : Int) := by decide +kernel
theorem and15 : ∀ n : Fin 256, bits .and .u8 (n.val : Int) 15 = ((n.val % 16 : Nat) : Int) := by decide +kernel
theorem and7 : ∀ n : Fin 256, bits .and .u8 (n.val : Int) 7 = ((n.val % 8 : Nat) : Int) := by decide +kernel
theorem and192 : ∀ n : Fin 256, (bits .and .u8 (n.val : Int) 192 != 128) = !(decide (128 ≤ n.val) && decide (n.val ≤ 191)) := by decide +kernel
theorem or64 (a b : Nat) (ha : a < 67108864) (hb : b < 64) : bits .or .u32 ((a : Int) * 64) (b : Int) = ((a * 64 + b : Nat) : Int) := by
  have := bits_or_u32 (a * 64) b (by omega) (by omega)
  rw [or_add a b 6 hb] at this
  rw [← this]
  congr 1

/-- The value of j + 1 octets, the first cut to its payload. -/
def acc (s : List UInt8) (m0 : Nat) : Nat → Nat
  | 0 => (s.getD 0 0).toNat % m0
  | j + 1 => acc s m0 j * 64 + (s.getD (j + 1) 0).toNat % 64
theorem acc_lt (s : List UInt8) (m0 : Nat) (hm : 0 < m0) : ∀ j, acc s m0 j < m0 * 64 ^ j
  | 0 => by simpa [acc] using Nat.mod_lt _ hm
  | j + 1 => by
    have ih := acc_lt s m0 hm j
    have h2 : (s.getD (j + 1) 0).toNat % 64 < 64 := Nat.mod_lt _ (by decide)
    unfold acc
    rw [Nat.pow_succ, ← Nat.mul_assoc]
    omega
theorem acc_b (s : List UInt8) (m j : Nat) (h1 : 1 ≤ m) (h3 : m ≤ 3) (hj : j + 1 ≤ m) : acc s (2 ^ (6 - m)) j < 67108864 := by
  refine Nat.lt_of_lt_of_le (acc_lt s _ (Nat.two_pow_pos _) j) ?_
  have : m = 1 ∨ m = 2 ∨ m = 3 := by omega
  rcases this with rfl | rfl | rfl
  · have : j = 0 := by omega
    subst this; decide
  · have : j = 0 ∨ j = 1 := by omega
    rcases this with rfl | rfl <;> decide
  · have : j = 0 ∨ j = 1 ∨ j = 2 := by omega
    rcases this with rfl | rfl | rfl <;> decide
def goesOn (x : UInt8) : Prop := 128 ≤ x.toNat ∧ x.toNat ≤ 191

theorem dec_short {s : List UInt8} {m lo hi : Nat} (hL : leadT (s.getD 0 0).toNat = ((m : Int), lo, hi)) (hm : 1 ≤ m) (hs : s ≠ []) (h : ¬ m < s.length) : dec s = none := by
  match s, hs with
  | x :: t, _ =>
    simp only [List.getD_cons_zero] at hL
    unfold leadT at hL
    unfold dec
    simp only
    simp only [List.length_cons] at h
    (repeat' split at hL) <;> simp only [Prod.mk.injEq] at hL <;> try omega
    · rw [if_neg (by omega), if_neg (by omega), if_pos (by omega)]
      match t, h with
      | [], _ => rfl
      | b :: r, h => simp at h; omega
    · rw [if_neg (by omega), if_neg (by omega), if_neg (by omega), if_pos (by omega)]
      match t, h with
      | [], _ => rfl
      | [b], _ => rfl
      | b :: d :: r, h => simp at h; omega
    · rw [if_neg (by omega), if_neg (by omega), if_neg (by omega), if_pos (by omega)]
      match t, h with
      | [], _ => rfl
      | [b], _ => rfl
      | b :: d :: r, h => simp at h; omega
    · rw [if_neg (by omega), if_neg (by omega), if_neg (by omega), if_pos (by omega)]
      match t, h with
      | [], _ => rfl
      | [b], _ => rfl
      | b :: d :: r, h => simp at h; omega
    · rw [if_neg (by omega), if_neg (by omega), if_neg (by omega), if_neg (by omega), if_pos (by omega)]
      match t, h with
      | [], _ => rfl
      | [b], _ => rfl
      | [b, d], _ => rfl
      | b :: d :: e :: r, h => simp at h; omega
    · rw [if_neg (by omega), if_neg (by omega), if_neg (by omega), if_neg (by omega), if_pos (by omega)]
      match t, h with
      | [], _ => rfl
      | [b], _ => rfl
      | [b, d], _ => rfl
      | b :: d :: e :: r, h => simp at h; omega
    · rw [if_neg (by omega), if_neg (by omega), if_neg (by omega), if_neg (by omega), if_pos (by omega)]
      match t, h with
      | [], _ => rfl
      | [b], _ => rfl
      | [b, d], _ => rfl
      | b :: d :: e :: r, h => simp at h; omega

theorem leadT_m {c : Nat} {m lo hi : Nat} (hL : leadT c = ((m : Int), lo, hi)) (hm : 1 ≤ m) : m ≤ 3 ∧
    (m = 1 → 194 ≤ c ∧ c < 224 ∧ lo = 128 ∧ hi = 191) ∧ (m = 2 → 224 ≤ c ∧ c < 240 ∧ lo = (if c = 224 then 160 else 128) ∧ hi = (if c = 237 then 159 else 191)) ∧
    (m = 3 → 240 ≤ c ∧ c < 245 ∧ lo = (if c = 240 then 144 else 128) ∧ hi = (if c = 244 then 143 else 191)) := by
  unfold leadT at hL
  (repeat' split at hL) <;> simp only [Prod.mk.injEq] at hL <;> obtain ⟨h1, h2, h3⟩ := hL <;> subst h2 <;> subst h3 <;> (try omega)
  all_goals
    refine ⟨by omega, fun _ => ?_, fun _ => ?_, fun _ => ?_⟩
  all_goals first | omega | (refine ⟨by omega, by omega, ?_, ?_⟩ <;> (first | (rw [if_pos (by omega)]) | (rw [if_neg (by omega)])))

theorem dec_full {s : List UInt8} {m lo hi : Nat} (hL : leadT (s.getD 0 0).toNat = ((m : Int), lo, hi)) (hm : 1 ≤ m) (h : m < s.length) :
    ((lo ≤ (s.getD 1 0).toNat ∧ (s.getD 1 0).toNat ≤ hi) ∧ (∀ t, 2 ≤ t → t ≤ m → goesOn (s.getD t 0)) → dec s = some (acc s (2 ^ (6 - m)) m, m + 1)) ∧
    (¬ ((lo ≤ (s.getD 1 0).toNat ∧ (s.getD 1 0).toNat ≤ hi) ∧ (∀ t, 2 ≤ t → t ≤ m → goesOn (s.getD t 0))) → dec s = none) := by
  obtain ⟨hm3, h1, h2, h3⟩ := leadT_m hL hm
  match s, h with
  | [], h => simp at h
  | [a], h => simp at h; omega
  | a :: b :: r, h =>
    simp only [List.getD_cons_zero, List.getD_cons_succ] at *
    have : m = 1 ∨ m = 2 ∨ m = 3 := by omega
    rcases this with rfl | rfl | rfl
    · obtain ⟨p1, p2, rfl, rfl⟩ := h1 rfl
      refine ⟨fun hh => ?_, fun hh => ?_⟩
      · rw [dec2 p1 p2 hh.1]; simp [acc]
      · unfold dec
        simp only
        rw [if_neg (by omega), if_neg (by omega), if_pos p2, if_neg (fun hc => hh ⟨hc, fun t ht1 ht2 => by omega⟩)]
    · obtain ⟨p1, p2, p3, p4⟩ := h2 rfl
      match r, h with
      | [], h => simp at h
      | d :: q, h =>
        refine ⟨fun hh => ?_, fun hh => ?_⟩
        · have g2 := hh.2 2 (by omega) (by omega)
          simp only [List.getD_cons_zero, List.getD_cons_succ] at g2
          rw [dec3 p1 p2 (by rw [← p3, ← p4]; exact hh.1) g2]; simp [acc]
        · unfold dec
          simp only
          rw [if_neg (by omega), if_neg (by omega), if_neg (by omega), if_pos p2, ← p3, ← p4, if_neg]
          rintro ⟨hc1, hc2⟩
          refine hh ⟨hc1, fun t ht1 ht2 => ?_⟩
          have : t = 2 := by omega
          subst this
          simpa [goesOn] using hc2
    · obtain ⟨p1, p2, p3, p4⟩ := h3 rfl
      match r, h with
      | [], h => simp at h
      | [d], h => simp at h
      | d :: e :: q, h =>
        refine ⟨fun hh => ?_, fun hh => ?_⟩
        · have g2 := hh.2 2 (by omega) (by omega)
          have g3 := hh.2 3 (by omega) (by omega)
          simp only [List.getD_cons_zero, List.getD_cons_succ] at g2 g3
          rw [dec4 p1 p2 (by rw [← p3, ← p4]; exact hh.1) g2 g3]; simp [acc]
        · unfold dec
          simp only
          rw [if_neg (by omega), if_neg (by omega), if_neg (by omega), if_neg (by omega), if_pos p2, ← p3, ← p4, if_neg]
          rintro ⟨hc1, hc2, hc3⟩
          refine hh ⟨hc1, fun t ht1 ht2 => ?_⟩
          have : t = 2 ∨ t = 3 := by omega
          rcases this with rfl | rfl
          · simpa [goesOn] using hc2
          · simpa [goesOn] using hc3

theorem getD_drop (l : List UInt8) (k i : Nat) (h : k + i < l.length) : (l.drop k).getD i 0 = l[k + i] := by simp [List.getD, h]
theorem mask_m (m : Nat) (h1 : 1 ≤ m) (h3 : m ≤ 3) (x : UInt8) : bits .and .u8 (x.toNat : Int) (63 / 2 ^ m) = ((x.toNat % 2 ^ (6 - m) : Nat) : Int) := by
  have hx := UInt8.toNat_lt x
  have : m = 1 ∨ m = 2 ∨ m = 3 := by omega
  rcases this with rfl | rfl | rfl
  · exact and31 ⟨x.toNat, hx⟩
  · exact and15 ⟨x.toNat, hx⟩
  · exact and7 ⟨x.toNat, hx⟩

set_option maxRecDepth 10000 in
set_option maxHeartbeats 1000000 in
theorem scalar_c (v : Value) (l : List UInt8) (k : Nat) (w : World) (h : Bs w v l) (hl : l.length ≤ 1000000) (hk : k < l.length) :
    Calls Try.prog 27 #[v, .int .i64 k] w fun e w' => e = .returned (.tuple #[.int .u32 (scalarV (l.drop k)).1, .int .i64 (scalarV (l.drop k)).2]) ∧ w' = w := by
  obtain ⟨a, c, rfl, hac, hcm, hca⟩ := h.form
  unfold maxLen at hcm
  obtain ⟨b, o, rfl, c0⟩ := hca k hk
  have i1 : (k : Int) < l.length := by omega
  have h0 := UInt8.toNat_lt l[k]
  have hdrop : l.drop k = l[k] :: l.drop (k + 1) := List.drop_eq_getElem_cons hk
  generalize hx0 : l[k] = x0 at *
  go_enter Try.func27, Try.ntmps27
  go_wp2_with fail
  refine (lead_c x0.toNat h0 w).mono ?_
  rintro e w1 ⟨rfl, rfl⟩
  have HX0 := Hid.mk hx0
  have HD := Hid.mk hdrop
  clear hx0 hdrop
  by_cases b1 : x0.toNat < 128
  · rw [leadT_a b1]
    go_wp2
    go_ret2
    refine ⟨tup2 ?_ ?_, rfl⟩ <;> rw [HD.out, scalarV, dec1 b1]
    rfl
  by_cases b2 : x0.toNat < 194 ∨ 244 < x0.toNat
  · have hL : leadT x0.toNat = (-1, 0, 0) := by
      rcases b2 with b2 | b2
      · exact leadT_b (by omega) b2
      · exact leadT_j b2
    rw [hL]
    go_wp2
    go_ret2
    have hn : dec (x0 :: l.drop (k + 1)) = none := by
      unfold dec; simp only
      rw [if_neg b1]
      rcases b2 with b2 | b2
      · rw [if_pos b2]
      · rw [if_neg (by omega), if_neg (by omega), if_neg (by omega), if_neg (by omega)]
    refine ⟨tup2 ?_ ?_, rfl⟩ <;> rw [HD.out, scalarV, hn]
  have hL : ∃ m lo hi : Nat, leadT x0.toNat = ((m : Int), lo, hi) ∧ 1 ≤ m ∧ m ≤ 3 ∧ lo ≤ 255 ∧ hi ≤ 255 := by
    unfold leadT
    rw [if_neg b1, if_neg (by omega)]
    by_cases e1 : x0.toNat < 224
    · rw [if_pos e1]; exact ⟨1, 128, 191, rfl, by omega⟩
    rw [if_neg e1]
    by_cases e2 : x0.toNat = 224
    · rw [if_pos e2]; exact ⟨2, 160, 191, rfl, by omega⟩
    rw [if_neg e2]
    by_cases e3 : x0.toNat = 237
    · rw [if_pos e3]; exact ⟨2, 128, 159, rfl, by omega⟩
    rw [if_neg e3]
    by_cases e4 : x0.toNat < 240
    · rw [if_pos e4]; exact ⟨2, 128, 191, rfl, by omega⟩
    rw [if_neg e4]
    by_cases e5 : x0.toNat = 240
    · rw [if_pos e5]; exact ⟨3, 144, 191, rfl, by omega⟩
    rw [if_neg e5]
    by_cases e6 : x0.toNat < 244
    · rw [if_pos e6]; exact ⟨3, 128, 191, rfl, by omega⟩
    rw [if_neg e6, if_pos (by omega)]; exact ⟨3, 128, 143, rfl, by omega⟩
  obtain ⟨m, lo, hi, hL, hm1, hm3, hlo, hhi⟩ := hL
  rw [hL]
  have hg0 : (l.drop k).getD 0 0 = x0 := by rw [getD_drop l k 0 (by omega)]; exact HX0.out
  have hLs : leadT ((l.drop k).getD 0 0).toNat = ((m : Int), lo, hi) := by rw [hg0]; exact hL
  have hsn : l.drop k ≠ [] := by rw [HD.out]; simp
  have hsl : (l.drop k).length = l.length - k := List.length_drop
  have HLs := Hid.mk hLs
  have HG0 := Hid.mk hg0
  have HSN := Hid.mk hsn
  have HSL := Hid.mk hsl
  have hmi : (1 : Int) ≤ m := by omega
  have hmi3 : (m : Int) ≤ 3 := by omega
  have hmz : ((m : Int) == 0) = false := beq_eq_false_iff_ne.2 (by omega)
  clear hL hLs hg0 hsn hsl b1 b2
  by_cases hsh : k + m < l.length
  · have i2 : ¬ (m : Int) > (l.length : Int) - k - 1 := by omega
    have hk1 : k + 1 < l.length := by omega
    obtain ⟨b', o', hbo, c1⟩ := hca (k + 1) hk1
    simp only [Option.some.injEq, Addr.mk.injEq, and_true] at hbo
    obtain ⟨rfl, rfl⟩ := hbo
    have i3 : (k : Int) + 1 < l.length := by omega
    have hg1 : (l.drop k).getD 1 0 = l[k + 1] := getD_drop l k 1 hk1
    have h1 := UInt8.toNat_lt l[k + 1]
    generalize l[k + 1] = x1 at *
    have HG1 := Hid.mk hg1
    clear hg1
    by_cases hb1 : (x1.toNat : Int) < lo
    · go_wp2
      go_ret2
      have hn := (dec_full HLs.out hm1 (by rw [HSL.out]; omega)).2 (by rw [HG1.out]; omega)
      refine ⟨tup2 ?_ ?_, rfl⟩ <;> rw [scalarV, hn]
    by_cases hb2 : (x1.toNat : Int) > hi
    · go_wp2
      go_ret2
      have hn := (dec_full HLs.out hm1 (by rw [HSL.out]; omega)).2 (by rw [HG1.out]; omega)
      refine ⟨tup2 ?_ ?_, rfl⟩ <;> rw [scalarV, hn]
    have hmask := mask_m m hm1 hm3 x0
    have h63 := and63 ⟨x1.toNat, h1⟩
    simp only at h63
    have hq : x0.toNat % 2 ^ (6 - m) < 64 := Nat.lt_of_lt_of_le (Nat.mod_lt _ (by exact Nat.two_pow_pos _)) (by
      have : m = 1 ∨ m = 2 ∨ m = 3 := by omega
      rcases this with rfl | rfl | rfl <;> decide)
    have hacc1 : acc (l.drop k) (2 ^ (6 - m)) 1 = x0.toNat % 2 ^ (6 - m) * 64 + x1.toNat % 64 := by
      show ((l.drop k).getD 0 0).toNat % 2 ^ (6 - m) * 64 + ((l.drop k).getD 1 0).toNat % 64 = _
      rw [HG0.out, HG1.out]
    have HA1 := Hid.mk hacc1
    clear hacc1
    have hr1 : x1.toNat % 64 < 64 := Nat.mod_lt _ (by decide)
    generalize x0.toNat % 2 ^ (6 - m) = q at *
    generalize x1.toNat % 64 = r1 at *
    have h64 := or64 q r1 (by omega) hr1
    have haccb : ∀ j, j + 1 ≤ m → acc (l.drop k) (2 ^ (6 - m)) j < 67108864 := fun j hj => acc_b _ m j hm1 hm3 hj
    have HAB := Hid.mk haccb
    clear haccb
    go_wp2
    clear h64 hmask h63
    go_loop [4, 11] (fun vv iv => ∃ j : Nat, 2 ≤ j ∧ j ≤ m + 1 ∧ iv = .int .i64 j ∧ vv = .int .u32 (acc (l.drop k) (2 ^ (6 - m)) (j - 1) : Nat) ∧ ∀ t, 2 ≤ t → t < j → goesOn ((l.drop k).getD t 0)) (fun _ i => m + 2 - (intOf i).toNat)
    case atStart => exact ⟨2, by omega, by omega, rfl, by rw [HA1.out]; go_num, fun t h1 h2 => by omega⟩
    case round =>
      obtain ⟨j, hj2, hjm, rfl, rfl, hgo⟩ := hrel
      by_cases hjl : j ≤ m
      · have hkj : k + j < l.length := by omega
        obtain ⟨b', o', hbo, cj⟩ := hca (k + j) hkj
        simp only [Option.some.injEq, Addr.mk.injEq, and_true] at hbo
        obtain ⟨rfl, rfl⟩ := hbo
        have hgj : (l.drop k).getD j 0 = l[k + j] := getD_drop l k j hkj
        have hy := UInt8.toNat_lt l[k + j]
        generalize l[k + j] = y at *
        have haj : acc (l.drop k) (2 ^ (6 - m)) (j - 1 + 1) = acc (l.drop k) (2 ^ (6 - m)) (j - 1) * 64 + y.toNat % 64 := by
          show acc (l.drop k) (2 ^ (6 - m)) (j - 1) * 64 + ((l.drop k).getD (j - 1 + 1) 0).toNat % 64 = _
          rw [show j - 1 + 1 = j by omega, hgj]
        have hV := HAB.out (j - 1) (by omega)
        have h192 := and192 ⟨y.toNat, hy⟩
        have h63 := and63 ⟨y.toNat, hy⟩
        simp only at h63 h192
        have hr : y.toNat % 64 < 64 := Nat.mod_lt _ (by decide)
        have HGO := Hid.mk hgo
        have HGJ := Hid.mk hgj
        generalize hVV : acc (l.drop k) (2 ^ (6 - m)) (j - 1) = V at *
        generalize hRR : y.toNat % 64 = r at *
        have HAJ := Hid.mk haj
        have h64 := or64 V r hV hr
        have HVV := Hid.mk hVV
        clear hgo hgj haj hVV hRR
        have i5 : (j : Int) ≤ m := by omega
        have i6 : (k : Int) + j < l.length := by omega
        by_cases hgy : 128 ≤ y.toNat ∧ y.toNat ≤ 191
        · have hbool : (bits .and .u8 (y.toNat : Int) 192 != 128) = false := by rw [h192]; simp [hgy]
          clear h192
          go_wp2
          go_round
          case rel =>
            refine ⟨j + 1, by omega, by omega, by go_num, ?_, fun t h1 h2 => ?_⟩
            · rw [show j + 1 - 1 = j - 1 + 1 by omega, HAJ.out]; go_num
            · by_cases htj : t = j
              · subst htj; rw [HGJ.out]; exact hgy
              · exact HGO.out t h1 (by omega)
          case measure => simp [intOf]; omega
        · have hbool : (bits .and .u8 (y.toNat : Int) 192 != 128) = true := by
            rw [h192]
            by_cases q1 : 128 ≤ y.toNat
            · have : ¬ y.toNat ≤ 191 := fun h => hgy ⟨q1, h⟩
              simp [this]
            · simp [q1]
          clear h192
          go_wp2
          go_ret2
          have hn := (dec_full HLs.out hm1 (by rw [HSL.out]; omega)).2 (fun hh => hgy (by have := hh.2 j hj2 hjl; rwa [HGJ.out] at this))
          refine ⟨tup2 ?_ ?_, rfl⟩ <;> rw [scalarV, hn]
      · have i5 : ¬ (j : Int) ≤ m := by omega
        have hjm' : j = m + 1 := by omega
        have HJ := Hid.mk hjm'
        have HGO := Hid.mk hgo
        clear hjm' hgo
        go_wp2
        go_ret2
        have hj : j = m + 1 := HJ.out
        have hs := (dec_full HLs.out hm1 (by rw [HSL.out]; omega)).1 ⟨by rw [HG1.out]; omega, fun t h1 h2 => HGO.out t h1 (by omega)⟩
        refine ⟨tup2 ?_ ?_, rfl⟩
        · rw [scalarV, hs, hj]; rfl
        · rw [scalarV, hs]; rfl
  · have i2 : (m : Int) > (l.length : Int) - k - 1 := by omega
    go_wp2
    go_ret2
    have hn := dec_short HLs.out hm1 HSN.out (by rw [HSL.out]; omega)
    refine ⟨tup2 ?_ ?_, rfl⟩ <;> rw [scalarV, hn]
end Go.Proofs.Qxb6500770a
