/- token.PutHeader, AppendHeader; the plain laws of the codec. -/
import Derived.Test.Qxb6500771aHdD
namespace Go.Proofs.Qxb6500771a
open Go.RowKit Go.Qm
set_option linter.unusedVariables false
set_option linter.unusedSimpArgs false

theorem chk_zero {id f ec rrc : Nat} (h : chk id f ec rrc = 0) : id = 1284 ∨ id = 1028 := by
  unfold chk at h
  split at h
  · omega
  · omega

set_option maxHeartbeats 1000000 in
theorem appendHeader_bad (a : Option Addr) (id f ec rrc sq : Nat) (w : World) (hid : id < 65536) (hf : f < 256) (hc : chk id f ec rrc ≠ 0) :
    Calls Try.prog 9 #[.slice a 0 0, .agg #[.int .u16 id, .int .u8 f, .int .u16 ec, .int .u16 rrc, .int .u64 sq]] w fun e w' =>
      e = .returned (.tuple #[.slice a 0 0, .int .i64 (chk id f ec rrc)]) ∧ Keep w w' := by
  have hc' : ((chk id f ec rrc : Int) != 0) = true := bne_t (by omega)
  clear hc
  go_enter Try.func9, Try.ntmps9
  go_wp2_with fail
  refine (checkHeader_c id f ec rrc sq _ hid hf).mono ?_
  rintro e w1 ⟨rfl, k1⟩
  go_wp2
  go_ret2
  exact ⟨rfl, ((Keep.refl w).alloc _).trans k1⟩

set_option maxHeartbeats 1000000 in
theorem appendHeader_ok (a : Option Addr) (id f ec rrc sq : Nat) (w : World) (hid : id < 65536) (hf : f < 256) (hec : ec < 65536) (hrrc : rrc < 65536) (hsq : sq < 2 ^ 64) (hc : chk id f ec rrc = 0) :
    Calls Try.prog 9 #[.slice a 0 0, .agg #[.int .u16 id, .int .u8 f, .int .u16 ec, .int .u16 rrc, .int .u64 sq]] w fun e w' =>
      ∃ g, e = .returned (.tuple #[.slice (some ⟨g, 0, none⟩) 16 16, .int .i64 0]) ∧ w.heap.size ≤ g ∧ Win w' g 5 [] (enc id f ec rrc sq) [] ∧ Keep w w' := by
  have hid2 := chk_zero hc
  have K0 := (Keep.refl w).alloc (.cells #[.int .u16 id, .int .u8 f, .int .u16 ec, .int .u16 rrc, .int .u64 sq] 33)
  have B0 := Five.new w (.int .u16 id) (.int .u8 f) (.int .u16 ec) (.int .u16 rrc) (.int .u64 sq)
  go_enter Try.func9, Try.ntmps9
  go_wp2_with fail
  refine (checkHeader_c id f ec rrc sq _ hid hf).mono ?_
  rintro e w1 ⟨rfl, k1⟩
  rw [hc]
  clear hc
  go_wp2_with fail
  refine (extend_c a w1).mono ?_
  rintro e w2 ⟨g, rfl, hg, win, k2⟩
  obtain ⟨b0, b1, b2, b3, b4⟩ := (B0.keep (k1.trans k2)).cells
  go_wp2_with fail
  refine (writeHeader_c g 0 16 [] [] _ id f ec rrc sq _ rfl (by simp) (by omega) (by simp [maxLen]) hid2 hf hec hrrc hsq win).mono ?_
  rintro e w3 ⟨rfl, win3, gr⟩
  go_wp2
  go_ret2
  have kk := (K0.trans k1).size
  exact ⟨g, rfl, by omega, win3, ((K0.trans k1).trans k2).grown gr (fun k hk => by simp at hk; omega)⟩

attribute [local go_sem ↓] Go.wp_at_zero Go.wp_at_succ

set_option maxHeartbeats 1000000 in
theorem putHeader_ok (g n c : Nat) (l : List UInt8) (sp : List Value) (id f ec rrc sq : Nat) (w : World) (hn : n = l.length) (hn16 : 16 ≤ n) (hnc : n ≤ c) (hcm : c ≤ maxLen) (hid : id < 65536) (hf : f < 256) (hec : ec < 65536) (hrrc : rrc < 65536) (hsq : sq < 2 ^ 64) (hc : chk id f ec rrc = 0) (hg : Win w g 5 [] l sp) :
    Calls Try.prog 16 #[.slice (some ⟨g, 0, none⟩) n c, .agg #[.int .u16 id, .int .u8 f, .int .u16 ec, .int .u16 rrc, .int .u64 sq]] w fun e w' =>
      e = .returned (.int .i64 0) ∧ Win w' g 5 [] (enc id f ec rrc sq ++ l.drop 16) sp ∧ w.grownBy w' (some g) := by
  have hid2 := chk_zero hc
  have hcm' := hcm
  unfold maxLen at hcm
  have K0 := (Keep.refl w).alloc (.cells #[.int .u16 id, .int .u8 f, .int .u16 ec, .int .u16 rrc, .int .u64 sq] 33)
  have B0 := Five.new w (.int .u16 id) (.int .u8 f) (.int .u16 ec) (.int .u16 rrc) (.int .u64 sq)
  have H1 := Hid.mk hn
  have hl16 : ¬ (n : Int) < 16 := by omega
  have q1 : (16 : Int) ≤ n := by omega
  have q2 : (16 : Int) ≤ c := by omega
  have q3 : 16 ≤ c := by omega
  clear hn
  go_enter Try.func16, Try.ntmps16
  go_wp2_with fail
  refine (checkHeader_c id f ec rrc sq _ hid hf).mono ?_
  rintro e w1 ⟨rfl, k1⟩
  rw [hc]
  clear hc
  have B1 := (B0.keep k1).drew
  obtain ⟨b0, b1, b2, b3, b4⟩ := B1.cells
  have win : Win w1.drew g 5 [] (l.take 16) ((l.drop 16).map cb ++ sp) := by
    refine Win.cut ((hg.keep (K0.trans k1)).drew) ?_
    rw [show l.map cb = (l.take 16).map cb ++ (l.drop 16).map cb by rw [← List.map_append, List.take_append_drop]]; simp; rw [← List.append_assoc, List.take_append_drop]
  go_wp2_with fail
  go_region_with (go_at_call 35; refine (writeHeader_c g 0 c [] _ (l.take 16) id f ec rrc sq _ rfl (by rw [List.length_take, ← H1.out]; omega) q3 hcm' hid2 hf hec hrrc hsq win).mono ?_; rintro e w3 ⟨rfl, win3, gr⟩)
  go_wp2
  go_ret
  refine ⟨rfl, ?_, grown_trans (keep_grown ((K0.trans k1).drew) _) gr⟩
  refine Win.cut win3 ?_
  rw [List.map_append]; simp

set_option maxHeartbeats 1000000 in
theorem putHeader_small (v : Value) (l : List UInt8) (id f ec rrc sq : Nat) (w : World) (hb : Bs w v l) (hl : l.length < 16) (hid : id < 65536) (hf : f < 256) (hc : chk id f ec rrc = 0) :
    Calls Try.prog 16 #[v, .agg #[.int .u16 id, .int .u8 f, .int .u16 ec, .int .u16 rrc, .int .u64 sq]] w fun e w' =>
      e = .returned (.int .i64 15) ∧ Keep w w' := by
  obtain ⟨a, c, rfl, hac, hcm, hca⟩ := hb.form
  clear hca
  unfold maxLen at hcm
  have hl' : (l.length : Int) < 16 := by omega
  go_enter Try.func16, Try.ntmps16
  go_wp2_with fail
  refine (checkHeader_c id f ec rrc sq _ hid hf).mono ?_
  rintro e w1 ⟨rfl, k1⟩
  rw [hc]
  clear hc
  go_wp2
  go_ret
  exact ⟨rfl, ((Keep.refl w).alloc _).trans k1⟩

/-! The plain laws. -/
theorem num_append (a b : List UInt8) : num (a ++ b) = num a * 256 ^ b.length + num b := by
  have h : ∀ (l : List UInt8) (v : Nat), l.foldl (fun v x => v * 256 + x.toNat) v = v * 256 ^ l.length + num l := by
    intro l
    induction l with
    | nil => intro v; simp [num]
    | cons x l ih =>
      intro v
      have hn : num (x :: l) = x.toNat * 256 ^ l.length + num l := by rw [num, List.foldl_cons, ih]; simp
      rw [List.foldl_cons, ih, hn, List.length_cons, Nat.pow_succ, Nat.add_mul]
      have : v * 256 * 256 ^ l.length = v * (256 ^ l.length * 256) := by rw [Nat.mul_assoc, Nat.mul_comm 256]
      omega
  rw [num, List.foldl_append, h]
  rfl
theorem num_dig (v : Nat) : ∀ n, num (dig v n) = v % 256 ^ n
  | 0 => by simp [dig, led, num, Nat.mod_one]
  | n + 1 => by
    have e : dig v (n + 1) = UInt8.ofNat (v / 256 ^ n % 256) :: dig v n := by simp [dig, led]
    have hx : (UInt8.ofNat (v / 256 ^ n % 256)).toNat = v / 256 ^ n % 256 := by
      have h : v / 256 ^ n % 256 < 256 := Nat.mod_lt _ (by omega)
      rw [UInt8.toNat_ofNat_of_lt' (by simpa [UInt8.size] using h)]
    rw [e, ← List.singleton_append, num_append, num_dig v n, dig_length]
    have h1 : num [UInt8.ofNat (v / 256 ^ n % 256)] = v / 256 ^ n % 256 := by simp [num, hx]
    rw [h1, Nat.pow_succ, Nat.mod_mul, Nat.mul_comm, Nat.add_comm]

theorem dig2 (v : Nat) : dig v 2 = [UInt8.ofNat (v / 256 % 256), UInt8.ofNat (v % 256)] := by simp [dig, led]


/-- What ParseHeader sees in a token of this layout. -/
theorem peek_lay (a b : UInt8) (l : List UInt8) (hl : 14 ≤ l.length) : peek (a :: b :: l) = if num [a, b] ≠ 1284 ∧ num [a, b] ≠ 1028 then (0, 10) else (num [a, b], 0) := by
  unfold peek
  rw [if_neg (by simp; omega)]
  rfl

theorem parse_lay {a b f x e4 e5 e6 e7 : UInt8} {s d : List UInt8} (hs : s.length = 8) (l : List UInt8) (hl : l = a :: b :: f :: x :: e4 :: e5 :: e6 :: e7 :: (s ++ d)) :
    parse l = if num [a, b] ≠ 1284 ∧ num [a, b] ≠ 1028 then (10, 0, 0, 0, 0, 0)
      else if cf (num [a, b]) f.toNat ≠ 0 then (3, 0, 0, 0, 0, 0)
      else if num [a, b] = 1284 then (if x ≠ 255 then (11, 0, 0, 0, 0, 0) else (0, num [a, b], f.toNat, num [e4, e5], num [e6, e7], num s))
      else (if x ≠ 255 ∨ e4 ≠ 255 ∨ e5 ≠ 255 ∨ e6 ≠ 255 ∨ e7 ≠ 255 then (11, 0, 0, 0, 0, 0) else (0, num [a, b], f.toNat, 0, 0, num s)) := by
  subst hl
  have hp := peek_lay a b (f :: x :: e4 :: e5 :: e6 :: e7 :: (s ++ d)) (by simp [hs])
  have h8 : (s ++ d).take 8 = s := by rw [← hs, List.take_left']; rfl
  by_cases h1 : num [a, b] ≠ 1284 ∧ num [a, b] ≠ 1028
  · rw [if_pos h1] at hp ⊢
    simp [parse, hp]
  · rw [if_neg h1] at hp ⊢
    by_cases h2 : cf (num [a, b]) f.toNat ≠ 0
    · rw [if_pos h2]
      simp [parse, hp, h2]
    · rw [if_neg h2]
      by_cases h3 : num [a, b] = 1284
      · rw [if_pos h3]
        rw [h3] at hp h2
        by_cases h4 : x ≠ 255
        · rw [if_pos h4]
          have hex : ∃ i, i < fil 1284 ∧ (a :: b :: f :: x :: e4 :: e5 :: e6 :: e7 :: (s ++ d)).getD (3 + i) 0 ≠ 255 := ⟨0, by simp [fil], by simpa using h4⟩
          unfold parse
          rw [hp]
          rw [if_neg (by simp), if_neg (by simpa using h2), if_pos hex]
        · rw [if_neg h4]
          have hex : ¬ ∃ i, i < fil 1284 ∧ (a :: b :: f :: x :: e4 :: e5 :: e6 :: e7 :: (s ++ d)).getD (3 + i) 0 ≠ 255 := by
            rintro ⟨i, hi, hne⟩
            have : i = 0 := by simp [fil] at hi; omega
            subst this
            exact hne (by simpa using h4)
          unfold parse
          rw [hp]
          rw [if_neg (by simp), if_neg (by simpa using h2), if_neg hex, if_pos rfl]
          simp [h8, h3]
      · have h5 : num [a, b] = 1028 := by omega
        rw [if_neg h3]
        rw [h5] at hp h2
        by_cases h4 : x ≠ 255 ∨ e4 ≠ 255 ∨ e5 ≠ 255 ∨ e6 ≠ 255 ∨ e7 ≠ 255
        · rw [if_pos h4]
          have hex : ∃ i, i < fil 1028 ∧ (a :: b :: f :: x :: e4 :: e5 :: e6 :: e7 :: (s ++ d)).getD (3 + i) 0 ≠ 255 := by
            rcases h4 with h | h | h | h | h
            · exact ⟨0, by simp [fil], by simpa using h⟩
            · exact ⟨1, by simp [fil], by simpa using h⟩
            · exact ⟨2, by simp [fil], by simpa using h⟩
            · exact ⟨3, by simp [fil], by simpa using h⟩
            · exact ⟨4, by simp [fil], by simpa using h⟩
          unfold parse
          rw [hp]
          rw [if_neg (by simp), if_neg (by simpa using h2), if_pos hex]
        · rw [if_neg h4]
          have hex : ¬ ∃ i, i < fil 1028 ∧ (a :: b :: f :: x :: e4 :: e5 :: e6 :: e7 :: (s ++ d)).getD (3 + i) 0 ≠ 255 := by
            rintro ⟨i, hi, hne⟩
            have hi5 : i < 5 := by simpa [fil] using hi
            have hx : x = 255 ∧ e4 = 255 ∧ e5 = 255 ∧ e6 = 255 ∧ e7 = 255 := by
              refine ⟨?_, ?_, ?_, ?_, ?_⟩ <;> (apply Classical.byContradiction; intro hh; exact h4 (by simp [hh]))
            obtain ⟨rfl, rfl, rfl, rfl, rfl⟩ := hx
            match i, hi5 with
            | 0, _ => exact hne rfl
            | 1, _ => exact hne rfl
            | 2, _ => exact hne rfl
            | 3, _ => exact hne rfl
            | 4, _ => exact hne rfl
          unfold parse
          rw [hp]
          rw [if_neg (by simp), if_neg (by simpa using h2), if_neg hex, if_neg (by omega)]
          simp [h8, h5]

/-- The octets of a header, one by one. -/
theorem enc_cons (id f ec rrc sq : Nat) (hid : id < 65536) (hec : ec < 65536) (hrrc : rrc < 65536) : ∃ a b e4 e5 e6 e7 : UInt8,
    enc id f ec rrc sq = a :: b :: UInt8.ofNat f :: 255 :: e4 :: e5 :: e6 :: e7 :: dig sq 8 ∧ num [a, b] = id ∧
    (id = 1284 → num [e4, e5] = ec ∧ num [e6, e7] = rrc) ∧ (id ≠ 1284 → e4 = 255 ∧ e5 = 255 ∧ e6 = 255 ∧ e7 = 255) := by
  have hn : ∀ v, v < 65536 → num [UInt8.ofNat (v / 256 % 256), UInt8.ofNat (v % 256)] = v := fun v hv => by
    rw [← dig2, num_dig]; exact Nat.mod_eq_of_lt (by omega)
  by_cases h : id = 1284
  · refine ⟨_, _, _, _, _, _, ?_, hn id hid, fun _ => ⟨hn ec hec, hn rrc hrrc⟩, fun e => absurd h e⟩
    rw [enc, if_pos h, dig2 id, dig2 ec, dig2 rrc]; simp
  · refine ⟨_, _, 255, 255, 255, 255, ?_, hn id hid, fun e => absurd e h, fun _ => ⟨rfl, rfl, rfl, rfl⟩⟩
    rw [enc, if_neg h, dig2 id]; simp

theorem ofNat_toNat {f : Nat} (h : f < 256) : (UInt8.ofNat f).toNat = f := UInt8.toNat_ofNat_of_lt' (by simpa [UInt8.size] using h)
theorem num8 {sq : Nat} (h : sq < 2 ^ 64) : num (dig sq 8) = sq := by rw [num_dig]; exact Nat.mod_eq_of_lt (by omega)

theorem chk_parts {id f ec rrc : Nat} (h : chk id f ec rrc = 0) : (id = 1284 ∨ id = 1028) ∧ cf id f = 0 ∧ (id = 1028 → ec = 0 ∧ rrc = 0) := by
  refine ⟨chk_zero h, ?_, ?_⟩
  · rcases cf_or id f with hc | hc
    · exfalso
      unfold chk at h
      rw [if_neg (by have := chk_zero h; omega), if_pos (by omega)] at h
      omega
    · exact hc
  · intro hi
    unfold chk at h
    rw [if_neg (by omega)] at h
    split at h
    · omega
    · split at h
      · omega
      · split at h
        · omega
        · omega

theorem parse_enc {id f ec rrc sq : Nat} (d : List UInt8) (hf : f < 256) (hec : ec < 65536) (hrrc : rrc < 65536) (hsq : sq < 2 ^ 64) (hc : chk id f ec rrc = 0) :
    parse (enc id f ec rrc sq ++ d) = (0, id, f, ec, rrc, sq) := by
  obtain ⟨h1, h2, h3⟩ := chk_parts hc
  obtain ⟨a, b, e4, e5, e6, e7, he, hn, hw, hm⟩ := enc_cons id f ec rrc sq (by omega) hec hrrc
  rw [parse_lay (dig_length sq 8) (d := d) _ (by rw [he]; rfl), hn, ofNat_toNat hf, num8 hsq, if_neg (by omega), if_neg (by omega)]
  rcases h1 with rfl | rfl
  · rw [if_pos rfl, if_neg (by simp), (hw rfl).1, (hw rfl).2]
  · obtain ⟨r4, r5, r6, r7⟩ := hm (by omega)
    obtain ⟨q1, q2⟩ := h3 rfl
    rw [if_neg (by omega), if_neg (by simp [r4, r5, r6, r7]), q1, q2]

theorem parse_short {l : List UInt8} (h : l.length < 16) : parse l = (8, 0, 0, 0, 0, 0) := by
  have : peek l = (0, 8) := by simp [peek, h]
  simp [parse, this]

theorem parse_badid {id f ec rrc sq : Nat} {i : Nat} (hi : i < 65536) (h1 : i ≠ 1284) (h2 : i ≠ 1028) (hid : id < 65536) (hec : ec < 65536) (hrrc : rrc < 65536) :
    parse (dig i 2 ++ (enc id f ec rrc sq).drop 2) = (10, 0, 0, 0, 0, 0) := by
  obtain ⟨a, b, e4, e5, e6, e7, he, hn, hw, hm⟩ := enc_cons id f ec rrc sq hid hec hrrc
  have hn2 : num (dig i 2) = i := by rw [num_dig]; exact Nat.mod_eq_of_lt (by omega)
  rw [dig2] at hn2
  rw [parse_lay (a := UInt8.ofNat (i / 256 % 256)) (b := UInt8.ofNat (i % 256)) (f := UInt8.ofNat f) (x := 255) (e4 := e4) (e5 := e5) (e6 := e6) (e7 := e7) (dig_length sq 8) (d := []) _ (by rw [he, dig2]; simp), hn2, if_pos ⟨h1, h2⟩]

theorem cf_big {id f : Nat} (h : 8 ≤ f) : cf id f = 3 := by simp [cf, h]

theorem parse_badflags {id f ec rrc sq : Nat} {x : UInt8} (hid : id < 65536) (hf : f < 256) (hec : ec < 65536) (hrrc : rrc < 65536) (hc : chk id f ec rrc = 0) (hx : 8 ≤ x.toNat) :
    parse ((enc id f ec rrc sq).set 2 (UInt8.ofNat f ||| x)) = (3, 0, 0, 0, 0, 0) := by
  obtain ⟨h1, h2, h3⟩ := chk_parts hc
  obtain ⟨a, b, e4, e5, e6, e7, he, hn, hw, hm⟩ := enc_cons id f ec rrc sq hid hec hrrc
  have hor : 8 ≤ (UInt8.ofNat f ||| x).toNat := by
    rw [UInt8.toNat_or]; exact Nat.le_trans hx (Nat.right_le_or)
  rw [parse_lay (a := a) (b := b) (f := UInt8.ofNat f ||| x) (x := 255) (e4 := e4) (e5 := e5) (e6 := e6) (e7 := e7) (dig_length sq 8) (d := []) _ (by rw [he]; simp), hn, if_neg (by omega), cf_big hor, if_pos (by omega)]

theorem parse_filler {id f ec rrc sq : Nat} {x : UInt8} {k : Nat} (hid : id < 65536) (hf : f < 256) (hec : ec < 65536) (hrrc : rrc < 65536) (hc : chk id f ec rrc = 0) (hx : x ≠ 255) (hk : k < fil id) :
    parse ((enc id f ec rrc sq).set (3 + k) x) = (11, 0, 0, 0, 0, 0) := by
  obtain ⟨h1, h2, h3⟩ := chk_parts hc
  obtain ⟨a, b, e4, e5, e6, e7, he, hn, hw, hm⟩ := enc_cons id f ec rrc sq hid hec hrrc
  rcases h1 with rfl | rfl
  · have hk0 : k = 0 := by simp [fil] at hk; omega
    subst hk0
    rw [parse_lay (a := a) (b := b) (f := UInt8.ofNat f) (x := x) (e4 := e4) (e5 := e5) (e6 := e6) (e7 := e7) (dig_length sq 8) (d := []) _ (by rw [he]; simp), hn, ofNat_toNat hf, if_neg (by omega), if_neg (by omega), if_pos rfl, if_pos hx]
  · have hk5 : k < 5 := by simpa [fil] using hk
    match k, hk5 with
    | 0, _ => rw [parse_lay (a := a) (b := b) (f := UInt8.ofNat f) (x := x) (e4 := e4) (e5 := e5) (e6 := e6) (e7 := e7) (dig_length sq 8) (d := []) _ (by rw [he]; simp), hn, ofNat_toNat hf, if_neg (by omega), if_neg (by omega), if_neg (by omega), if_pos (by simp [hx])]
    | 1, _ => rw [parse_lay (a := a) (b := b) (f := UInt8.ofNat f) (x := 255) (e4 := x) (e5 := e5) (e6 := e6) (e7 := e7) (dig_length sq 8) (d := []) _ (by rw [he]; simp), hn, ofNat_toNat hf, if_neg (by omega), if_neg (by omega), if_neg (by omega), if_pos (by simp [hx])]
    | 2, _ => rw [parse_lay (a := a) (b := b) (f := UInt8.ofNat f) (x := 255) (e4 := e4) (e5 := x) (e6 := e6) (e7 := e7) (dig_length sq 8) (d := []) _ (by rw [he]; simp), hn, ofNat_toNat hf, if_neg (by omega), if_neg (by omega), if_neg (by omega), if_pos (by simp [hx])]
    | 3, _ => rw [parse_lay (a := a) (b := b) (f := UInt8.ofNat f) (x := 255) (e4 := e4) (e5 := e5) (e6 := x) (e7 := e7) (dig_length sq 8) (d := []) _ (by rw [he]; simp), hn, ofNat_toNat hf, if_neg (by omega), if_neg (by omega), if_neg (by omega), if_pos (by simp [hx])]
    | 4, _ => rw [parse_lay (a := a) (b := b) (f := UInt8.ofNat f) (x := 255) (e4 := e4) (e5 := e5) (e6 := e6) (e7 := x) (dig_length sq 8) (d := []) _ (by rw [he]; simp), hn, ofNat_toNat hf, if_neg (by omega), if_neg (by omega), if_neg (by omega), if_pos (by simp [hx])]

/-- The header that wellFormed makes is well formed. -/
theorem wf_chk (id f ec rrc : Nat) : chk (wfId id) (wfF id f) (wfE id ec) (wfE id rrc) = 0 := by
  by_cases h : id % 2 = 1
  · have e1 : wfId id = 1028 := by simp [wfId, h]
    have e2 : wfF id f = f % 8 - f % 8 / 2 % 2 * 2 := by simp [wfF, h]
    have e3 : ∀ x, wfE id x = 0 := by simp [wfE, h]
    have e4 : cf 1028 (f % 8 - f % 8 / 2 % 2 * 2) = 0 := by
      have : ∀ g : Fin 8, cf 1028 (g.val - g.val / 2 % 2 * 2) = 0 := by decide
      exact this ⟨f % 8, by omega⟩
    rw [e1, e2, e3, e3, chk, e4]; simp
  · have e1 : wfId id = 1284 := by simp [wfId, h]
    have e2 : wfF id f = f % 8 := by simp [wfF, h]
    have e4 : cf 1284 (f % 8) = 0 := by
      have : ∀ g : Fin 8, cf 1284 g.val = 0 := by decide
      exact this ⟨f % 8, by omega⟩
    rw [e1, e2, chk, e4]; simp
theorem wf_lt (id f ec : Nat) (hec : ec < 65536) : wfId id < 65536 ∧ wfF id f < 256 ∧ wfE id ec < 65536 := by
  unfold wfId wfF wfE
  split <;> refine ⟨?_, ?_, ?_⟩ <;> omega
end Go.Proofs.Qxb6500771a
