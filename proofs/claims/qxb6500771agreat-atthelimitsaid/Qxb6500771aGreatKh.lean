/- The plain laws of the codec: parse of what enc lays (carried over from 771a). -/
import Derived.Test.Qxb6500771aGreatIc
namespace Go.Proofs.Qxb6500771aGreat
open Go.RowKit Go.Qm
set_option linter.unusedVariables false
set_option linter.unusedSimpArgs false
theorem chk_zero {id f ec rrc : Nat} (h : chH id f ec rrc = 0) : id = 1284 ∨ id = 1028 := by
  unfold chH at h
  split at h
  · omega
  · omega

/-! The plain laws. -/
theorem num_append (a b : List UInt8) : num (a ++ b) = num a * 256 ^ b.length + num b := by
  have h : ∀ (l : List UInt8) (v : Nat), l.foldl (fun v x => v * 256 + x.toNat) v = v * 256 ^ l.length + num l := by
    intro l
    induction l with
    | nil => intro v; simp [num]
    | cons x l ih =>
      intro v
      have hn : num (x :: l) = x.toNat * 256 ^ l.length + num l := by rw [num, List.foldl_cons, ih]; simp
      rw [List.foldl_cons, ih, hn, List.length_cons, Nat.pow_succ, Nat.add_mul]
      have : v * 256 * 256 ^ l.length = v * (256 ^ l.length * 256) := by rw [Nat.mul_assoc, Nat.mul_comm 256]
      omega
  rw [num, List.foldl_append, h]
  rfl
theorem num_dig (v : Nat) : ∀ n, num (dig v n) = v % 256 ^ n
  | 0 => by simp [dig, led, num, Nat.mod_one]
  | n + 1 => by
    have e : dig v (n + 1) = UInt8.ofNat (v / 256 ^ n % 256) :: dig v n := by simp [dig, led]
    have hx : (UInt8.ofNat (v / 256 ^ n % 256)).toNat = v / 256 ^ n % 256 := by
      have h : v / 256 ^ n % 256 < 256 := Nat.mod_lt _ (by omega)
      rw [UInt8.toNat_ofNat_of_lt' (by simpa [UInt8.size] using h)]
    rw [e, ← List.singleton_append, num_append, num_dig v n, dig_length]
    have h1 : num [UInt8.ofNat (v / 256 ^ n % 256)] = v / 256 ^ n % 256 := by simp [num, hx]
    rw [h1, Nat.pow_succ, Nat.mod_mul, Nat.mul_comm, Nat.add_comm]

theorem dig2 (v : Nat) : dig v 2 = [UInt8.ofNat (v / 256 % 256), UInt8.ofNat (v % 256)] := by simp [dig, led]


/-- What ParseHeader sees in a token of this layout. -/
theorem peek_lay (a b : UInt8) (l : List UInt8) (hl : 14 ≤ l.length) : peek (a :: b :: l) = if num [a, b] ≠ 1284 ∧ num [a, b] ≠ 1028 then (0, 10) else (num [a, b], 0) := by
  unfold peek
  rw [if_neg (by simp; omega)]
  rfl

theorem parse_lay {a b f x e4 e5 e6 e7 : UInt8} {s d : List UInt8} (hs : s.length = 8) (l : List UInt8) (hl : l = a :: b :: f :: x :: e4 :: e5 :: e6 :: e7 :: (s ++ d)) :
    parse l = if num [a, b] ≠ 1284 ∧ num [a, b] ≠ 1028 then (10, 0, 0, 0, 0, 0)
      else if cf (num [a, b]) f.toNat ≠ 0 then (3, 0, 0, 0, 0, 0)
      else if num [a, b] = 1284 then (if x ≠ 255 then (11, 0, 0, 0, 0, 0) else (0, num [a, b], f.toNat, num [e4, e5], num [e6, e7], num s))
      else (if x ≠ 255 ∨ e4 ≠ 255 ∨ e5 ≠ 255 ∨ e6 ≠ 255 ∨ e7 ≠ 255 then (11, 0, 0, 0, 0, 0) else (0, num [a, b], f.toNat, 0, 0, num s)) := by
  subst hl
  have hp := peek_lay a b (f :: x :: e4 :: e5 :: e6 :: e7 :: (s ++ d)) (by simp [hs])
  have h8 : (s ++ d).take 8 = s := by rw [← hs, List.take_left']; rfl
  by_cases h1 : num [a, b] ≠ 1284 ∧ num [a, b] ≠ 1028
  · rw [if_pos h1] at hp ⊢
    simp [parse, hp]
  · rw [if_neg h1] at hp ⊢
    by_cases h2 : cf (num [a, b]) f.toNat ≠ 0
    · rw [if_pos h2]
      simp [parse, hp, h2]
    · rw [if_neg h2]
      by_cases h3 : num [a, b] = 1284
      · rw [if_pos h3]
        rw [h3] at hp h2
        by_cases h4 : x ≠ 255
        · rw [if_pos h4]
          have hex : ∃ i, i < fil 1284 ∧ (a :: b :: f :: x :: e4 :: e5 :: e6 :: e7 :: (s ++ d)).getD (3 + i) 0 ≠ 255 := ⟨0, by simp [fil], by simpa using h4⟩
          unfold parse
          rw [hp]
          rw [if_neg (by simp), if_neg (by simpa using h2), if_pos hex]
        · rw [if_neg h4]
          have hex : ¬ ∃ i, i < fil 1284 ∧ (a :: b :: f :: x :: e4 :: e5 :: e6 :: e7 :: (s ++ d)).getD (3 + i) 0 ≠ 255 := by
            rintro ⟨i, hi, hne⟩
            have : i = 0 := by simp [fil] at hi; omega
            subst this
            exact hne (by simpa using h4)
          unfold parse
          rw [hp]
          rw [if_neg (by simp), if_neg (by simpa using h2), if_neg hex, if_pos rfl]
          simp [h8, h3]
      · have h5 : num [a, b] = 1028 := by omega
        rw [if_neg h3]
        rw [h5] at hp h2
        by_cases h4 : x ≠ 255 ∨ e4 ≠ 255 ∨ e5 ≠ 255 ∨ e6 ≠ 255 ∨ e7 ≠ 255
        · rw [if_pos h4]
          have hex : ∃ i, i < fil 1028 ∧ (a :: b :: f :: x :: e4 :: e5 :: e6 :: e7 :: (s ++ d)).getD (3 + i) 0 ≠ 255 := by
            rcases h4 with h | h | h | h | h
            · exact ⟨0, by simp [fil], by simpa using h⟩
            · exact ⟨1, by simp [fil], by simpa using h⟩
            · exact ⟨2, by simp [fil], by simpa using h⟩
            · exact ⟨3, by simp [fil], by simpa using h⟩
            · exact ⟨4, by simp [fil], by simpa using h⟩
          unfold parse
          rw [hp]
          rw [if_neg (by simp), if_neg (by simpa using h2), if_pos hex]
        · rw [if_neg h4]
          have hex : ¬ ∃ i, i < fil 1028 ∧ (a :: b :: f :: x :: e4 :: e5 :: e6 :: e7 :: (s ++ d)).getD (3 + i) 0 ≠ 255 := by
            rintro ⟨i, hi, hne⟩
            have hi5 : i < 5 := by simpa [fil] using hi
            have hx : x = 255 ∧ e4 = 255 ∧ e5 = 255 ∧ e6 = 255 ∧ e7 = 255 := by
              refine ⟨?_, ?_, ?_, ?_, ?_⟩ <;> (apply Classical.byContradiction; intro hh; exact h4 (by simp [hh]))
            obtain ⟨rfl, rfl, rfl, rfl, rfl⟩ := hx
            match i, hi5 with
            | 0, _ => exact hne rfl
            | 1, _ => exact hne rfl
            | 2, _ => exact hne rfl
            | 3, _ => exact hne rfl
            | 4, _ => exact hne rfl
          unfold parse
          rw [hp]
          rw [if_neg (by simp), if_neg (by simpa using h2), if_neg hex, if_neg (by omega)]
          simp [h8, h5]

/-- The octets of a header, one by one. -/
theorem enc_cons (id f ec rrc sq : Nat) (hid : id < 65536) (hec : ec < 65536) (hrrc : rrc < 65536) : ∃ a b e4 e5 e6 e7 : UInt8,
    enc id f ec rrc sq = a :: b :: UInt8.ofNat f :: 255 :: e4 :: e5 :: e6 :: e7 :: dig sq 8 ∧ num [a, b] = id ∧
    (id = 1284 → num [e4, e5] = ec ∧ num [e6, e7] = rrc) ∧ (id ≠ 1284 → e4 = 255 ∧ e5 = 255 ∧ e6 = 255 ∧ e7 = 255) := by
  have hn : ∀ v, v < 65536 → num [UInt8.ofNat (v / 256 % 256), UInt8.ofNat (v % 256)] = v := fun v hv => by
    rw [← dig2, num_dig]; exact Nat.mod_eq_of_lt (by omega)
  by_cases h : id = 1284
  · refine ⟨_, _, _, _, _, _, ?_, hn id hid, fun _ => ⟨hn ec hec, hn rrc hrrc⟩, fun e => absurd h e⟩
    rw [enc, if_pos h, dig2 id, dig2 ec, dig2 rrc]; simp
  · refine ⟨_, _, 255, 255, 255, 255, ?_, hn id hid, fun e => absurd e h, fun _ => ⟨rfl, rfl, rfl, rfl⟩⟩
    rw [enc, if_neg h, dig2 id]; simp

theorem ofNat_toNat {f : Nat} (h : f < 256) : (UInt8.ofNat f).toNat = f := UInt8.toNat_ofNat_of_lt' (by simpa [UInt8.size] using h)
theorem num8 {sq : Nat} (h : sq < 2 ^ 64) : num (dig sq 8) = sq := by rw [num_dig]; exact Nat.mod_eq_of_lt (by omega)

theorem chk_parts {id f ec rrc : Nat} (h : chH id f ec rrc = 0) : (id = 1284 ∨ id = 1028) ∧ cf id f = 0 ∧ (id = 1028 → ec = 0 ∧ rrc = 0) := by
  refine ⟨chk_zero h, ?_, ?_⟩
  · rcases cf_or id f with hc | hc
    · exfalso
      unfold chH at h
      rw [if_neg (by have := chk_zero h; omega), if_pos (by omega)] at h
      omega
    · exact hc
  · intro hi
    unfold chH at h
    rw [if_neg (by omega)] at h
    split at h
    · omega
    · split at h
      · omega
      · split at h
        · omega
        · omega

theorem parse_enc {id f ec rrc sq : Nat} (d : List UInt8) (hf : f < 256) (hec : ec < 65536) (hrrc : rrc < 65536) (hsq : sq < 2 ^ 64) (hc : chH id f ec rrc = 0) :
    parse (enc id f ec rrc sq ++ d) = (0, id, f, ec, rrc, sq) := by
  obtain ⟨h1, h2, h3⟩ := chk_parts hc
  obtain ⟨a, b, e4, e5, e6, e7, he, hn, hw, hm⟩ := enc_cons id f ec rrc sq (by omega) hec hrrc
  rw [parse_lay (dig_length sq 8) (d := d) _ (by rw [he]; rfl), hn, ofNat_toNat hf, num8 hsq, if_neg (by omega), if_neg (by omega)]
  rcases h1 with rfl | rfl
  · rw [if_pos rfl, if_neg (by simp), (hw rfl).1, (hw rfl).2]
  · obtain ⟨r4, r5, r6, r7⟩ := hm (by omega)
    obtain ⟨q1, q2⟩ := h3 rfl
    rw [if_neg (by omega), if_neg (by simp [r4, r5, r6, r7]), q1, q2]

end Go.Proofs.Qxb6500771aGreat
