/- octetsm.IsScalar, SpellUTF8, SpellUTF16LE, startsWith, FirstScalar: their contracts. -/
import Derived.Test.Qxb6500770aU1
namespace Go.Proofs.Qxb6500770a
open Go.RowKit Go.Qm
set_option linter.unusedVariables false
set_option linter.unusedSimpArgs false

theorem cbob {n : Int} {m : Nat} (h : n = ((m % 256 : Nat) : Int)) : Value.int .u8 n = cb (ob m) := by
  unfold cb; rw [ob_val, h]

set_option maxRecDepth 10000 in
set_option maxHeartbeats 400000 in
theorem isScalar_c (c : Nat) (w : World) (hc : c < 4000000) : Calls Try.prog 23 #[.int .i64 c] w fun e w' => e = .returned (.bool (isSc c)) ∧ w' = w := by
  by_cases h1 : c ≤ 55295
  · have i1 : decide ((c : Int) ≤ 55295) = true := decide_eq_true (by omega)
    have hr : isSc c = true := (isSc_iff c).2 (by omega)
    rw [hr]
    clear hr h1
    go_enter Try.func23, Try.ntmps23
    go_wp2
    all_goals (go_ret; exact ⟨rfl, rfl⟩)
  · have i1 : decide ((c : Int) ≤ 55295) = false := decide_eq_false (by omega)
    by_cases h2 : 57344 ≤ c
    · have i2 : decide ((57344 : Int) ≤ c) = true := decide_eq_true (by omega)
      by_cases h3 : c ≤ 1114111
      · have i3 : decide ((c : Int) ≤ 1114111) = true := decide_eq_true (by omega)
        have hr : isSc c = true := (isSc_iff c).2 (by omega)
        rw [hr]
        clear hr h1 h2 h3
        go_enter Try.func23, Try.ntmps23
        go_wp2
        all_goals (go_ret; exact ⟨rfl, rfl⟩)
      · have i3 : decide ((c : Int) ≤ 1114111) = false := decide_eq_false (by omega)
        have hr : isSc c = false := by rw [← Bool.not_eq_true, isSc_iff]; omega
        rw [hr]
        clear hr h1 h2 h3
        go_enter Try.func23, Try.ntmps23
        go_wp2
        all_goals (go_ret; exact ⟨rfl, rfl⟩)
    · have i2 : decide ((57344 : Int) ≤ c) = false := decide_eq_false (by omega)
      have hr : isSc c = false := by rw [← Bool.not_eq_true, isSc_iff]; omega
      rw [hr]
      clear hr h1 h2
      go_enter Try.func23, Try.ntmps23
      go_wp2
      all_goals (go_ret; exact ⟨rfl, rfl⟩)

theorem own_lit {B : Nat} {w : World} (l : List UInt8) {n : Nat} (hn : n = l.length) (hB : B ≤ w.heap.size) (hl : l.length ≤ 1000) :
    Own B 5 (w.alloc (.cells (l.map cb).toArray 5)) (.slice (some ⟨w.heap.size, 0, none⟩) n n) (l.map cb) := by
  have := Own.lit (B := B) (e := 5) (w := w) (l.map cb) hB (by simp [maxLen]; omega)
  rwa [List.length_map, ← hn] at this

set_option maxRecDepth 10000 in
set_option maxHeartbeats 400000 in
theorem spell8_c (c : Nat) (w : World) (hc0 : c ≤ 1114111) : Calls Try.prog 22 #[.int .i64 c] w fun e w' => ∃ v, e = .returned v ∧ Own w.heap.size 5 w' v ((sp8 c).map cb) ∧ Keep w w' := by
  have hc : (c : Int) ≤ 1114111 := by omega
  clear hc0
  by_cases h1 : (c : Int) ≤ 127
  · have hs : sp8 c = [ob c] := by unfold sp8; rw [if_pos (by omega)]
    have HS := Hid.mk hs
    clear hs
    go_enter Try.func22, Try.ntmps22
    go_wp2
    go_ret
    refine ⟨_, rfl, ?_, (Keep.refl _).alloc _⟩
    rw [HS.out, cbob (m := c) (by omega)]
    exact own_lit [_] rfl (Nat.le_refl _) (by simp)
  by_cases h2 : (c : Int) ≤ 2047
  · have hs : sp8 c = [ob (192 + c / 64), ob (128 + c % 64)] := by unfold sp8; rw [if_neg (by omega), if_pos (by omega)]
    have HS := Hid.mk hs
    clear hs
    go_enter Try.func22, Try.ntmps22
    go_wp2
    go_ret
    refine ⟨_, rfl, ?_, (Keep.refl _).alloc _⟩
    rw [HS.out, cbob (n := 192 + (c : Int) / 64) (m := 192 + c / 64) (by omega), cbob (n := 128 + (c : Int) % 64) (m := 128 + c % 64) (by omega)]
    exact own_lit [_, _] rfl (Nat.le_refl _) (by simp)
  by_cases h3 : (c : Int) ≤ 65535
  · have i3 : decide ((c : Int) ≤ 65535) = true := decide_eq_true h3
    have hs : sp8 c = [ob (224 + c / 4096), ob (128 + c / 64 % 64), ob (128 + c % 64)] := by unfold sp8; rw [if_neg (by omega), if_neg (by omega), if_pos (by omega)]
    have HS := Hid.mk hs
    clear hs
    go_enter Try.func22, Try.ntmps22
    go_wp2
    go_ret
    refine ⟨_, rfl, ?_, (Keep.refl _).alloc _⟩
    rw [HS.out, cbob (n := 224 + (c : Int) / 4096) (m := 224 + c / 4096) (by omega), cbob (n := 128 + (c : Int) / 64 % 64) (m := 128 + c / 64 % 64) (by omega), cbob (n := 128 + (c : Int) % 64) (m := 128 + c % 64) (by omega)]
    exact own_lit [_, _, _] rfl (Nat.le_refl _) (by simp)
  · have i3 : decide ((c : Int) ≤ 65535) = false := decide_eq_false h3
    have hs : sp8 c = [ob (240 + c / 262144), ob (128 + c / 4096 % 64), ob (128 + c / 64 % 64), ob (128 + c % 64)] := by unfold sp8; rw [if_neg (by omega), if_neg (by omega), if_neg (by omega)]
    have HS := Hid.mk hs
    have H3 := Hid.mk h3
    clear hs h3
    go_enter Try.func22, Try.ntmps22
    go_wp2
    go_ret
    refine ⟨_, rfl, ?_, (Keep.refl _).alloc _⟩
    rw [HS.out, cbob (n := 240 + (c : Int) / 262144) (m := 240 + c / 262144) (by omega), cbob (n := 128 + (c : Int) / 4096 % 64) (m := 128 + c / 4096 % 64) (by omega), cbob (n := 128 + (c : Int) / 64 % 64) (m := 128 + c / 64 % 64) (by omega), cbob (n := 128 + (c : Int) % 64) (m := 128 + c % 64) (by omega)]
    exact own_lit [_, _, _, _] rfl (Nat.le_refl _) (by simp)

set_option maxRecDepth 10000 in
set_option maxHeartbeats 400000 in
theorem spell16_c (c : Nat) (w : World) (hc0 : c ≤ 1114111) : Calls Try.prog 24 #[.int .i64 c] w fun e w' => ∃ v, e = .returned v ∧ Own w.heap.size 5 w' v ((sp16 c).map cb) ∧ Keep w w' := by
  have hc : (c : Int) ≤ 1114111 := by omega
  by_cases h3 : (c : Int) ≤ 65535
  · have i3 : decide ((c : Int) ≤ 65535) = true := decide_eq_true h3
    have hs : sp16 c = [ob (c % 256), ob (c / 256)] := by unfold sp16; rw [if_pos (by omega)]
    have HS := Hid.mk hs
    clear hs hc0
    go_enter Try.func24, Try.ntmps24
    go_wp2
    go_ret
    refine ⟨_, rfl, ?_, (Keep.refl _).alloc _⟩
    rw [HS.out, cbob (n := (c : Int) % 256) (m := c % 256) (by omega), cbob (n := (c : Int) / 256) (m := c / 256) (by omega)]
    exact own_lit [_, _] rfl (Nat.le_refl _) (by simp)
  · have i3 : decide ((c : Int) ≤ 65535) = false := decide_eq_false h3
    obtain ⟨x, hx⟩ : ∃ x, c - 65536 = x := ⟨_, rfl⟩
    have i4 : (c : Int) - 65536 = x := by omega
    have i5 : (x : Int) < 1048576 := by omega
    have hs : sp16 c = [ob ((55296 + x / 1024) % 256), ob ((55296 + x / 1024) / 256), ob ((56320 + x % 1024) % 256), ob ((56320 + x % 1024) / 256)] := by
      unfold sp16; rw [if_neg (by omega), hx]
    have HS := Hid.mk hs
    have H3 := Hid.mk h3
    clear hs h3 hc0 hx
    go_enter Try.func24, Try.ntmps24
    go_wp2
    go_ret
    refine ⟨_, rfl, ?_, (Keep.refl _).alloc _⟩
    rw [HS.out, cbob (n := (55296 + (x : Int) / 1024) % 256) (m := (55296 + x / 1024) % 256) (by omega), cbob (n := (55296 + (x : Int) / 1024) / 256) (m := (55296 + x / 1024) / 256) (by omega),
      cbob (n := (56320 + (x : Int) % 1024) % 256) (m := (56320 + x % 1024) % 256) (by omega), cbob (n := (56320 + (x : Int) % 1024) / 256) (m := (56320 + x % 1024) / 256) (by omega)]
    exact own_lit [_, _, _, _] rfl (Nat.le_refl _) (by simp)

set_option maxRecDepth 10000 in
set_option maxHeartbeats 400000 in
theorem startsWith_c (v v' : Value) (s p : List UInt8) (w : World) (hs : Bs w v s) (hp : Bs w v' p) (hl : s.length ≤ 1000000) :
    Calls Try.prog 31 #[v, v'] w fun e w' => e = .returned (.bool (decide (s.take p.length = p))) ∧ Keep w w' := by
  have hs0 := hs
  have hp0 := hp
  obtain ⟨a, c, rfl, hac, hcm, _⟩ := hs.form
  obtain ⟨a', c', rfl, hac', hcm', _⟩ := hp.form
  unfold maxLen at hcm hcm'
  by_cases hle : p.length ≤ s.length
  · have i1 : (p.length : Int) ≤ s.length := by omega
    have i2 : (p.length : Int) ≤ c := by omega
    have hpart := hs0.part (i := 0) (j := p.length) (by omega) hle a (fun _ => by cases a <;> simp [Addr.add])
    simp only [Nat.sub_zero, List.drop_zero] at hpart
    go_enter Try.func31, Try.ntmps31
    go_wp2_with fail
    refine (same_c _ _ _ _ w hpart hp0).mono ?_
    rintro e w1 ⟨rfl, k1⟩
    go_wp2
    all_goals (go_ret; exact ⟨rfl, k1⟩)
  · have i1 : ¬ (p.length : Int) ≤ s.length := by omega
    have hne : decide (s.take p.length = p) = false := decide_eq_false (fun e => by
      have := congrArg List.length e
      rw [List.length_take] at this
      omega)
    rw [hne]
    clear hne
    go_enter Try.func31, Try.ntmps31
    go_wp2
    all_goals (go_ret; exact ⟨rfl, Keep.refl _⟩)

/-- The candidate of width w, before octet i is taken in. -/
def candTo (s : List UInt8) (w : Nat) : Nat → Nat
  | 0 => 0
  | 1 => if w = 1 then (s.getD 0 0).toNat else (s.getD 0 0).toNat % 2 ^ (7 - w)
  | i + 1 => candTo s w i * 64 + (s.getD i 0).toNat % 64
theorem candTo_succ (s : List UInt8) (w i : Nat) (h : 1 ≤ i) : candTo s w (i + 1) = candTo s w i * 64 + (s.getD i 0).toNat % 64 := by
  match i, h with
  | i + 1, _ => rfl
theorem candTo_eq (s : List UInt8) (w : Nat) (h1 : 1 ≤ w) (h4 : w ≤ 4) : candTo s w w = cand s w := by
  have : w = 1 ∨ w = 2 ∨ w = 3 ∨ w = 4 := by omega
  rcases this with rfl | rfl | rfl | rfl <;> simp [candTo, cand]
theorem candTo_lt (s : List UInt8) (w : Nat) (h1 : 1 ≤ w) (h4 : w ≤ 4) : ∀ i, 1 ≤ i → i ≤ w → candTo s w i < 4000000 := by
  have hb : ∀ i, (s.getD i 0).toNat < 256 := fun i => UInt8.toNat_lt _
  have h0 := hb 0
  have m1 := fun i => Nat.mod_lt ((s.getD i 0).toNat) (show 0 < 64 by decide)
  have hw : w = 1 ∨ w = 2 ∨ w = 3 ∨ w = 4 := by omega
  intro i hi1 hiw
  have g1 := m1 1
  have g2 := m1 2
  have g3 := m1 3
  have hi : i = 1 ∨ i = 2 ∨ i = 3 ∨ i = 4 := by omega
  have f1 : ∀ j : Nat, candTo s w 1 ≤ 255 := fun _ => by
    show (if w = 1 then (s.getD 0 0).toNat else (s.getD 0 0).toNat % 2 ^ (7 - w)) ≤ 255
    by_cases h : w = 1
    · rw [if_pos h]; omega
    · rw [if_neg h]; exact Nat.le_trans (Nat.mod_le _ _) (by omega)
  have f2 : candTo s w 2 = candTo s w 1 * 64 + (s.getD 1 0).toNat % 64 := rfl
  have f3 : candTo s w 3 = candTo s w 2 * 64 + (s.getD 2 0).toNat % 64 := rfl
  have f4 : candTo s w 4 = candTo s w 3 * 64 + (s.getD 3 0).toNat % 64 := rfl
  have b1 := f1 0
  have b4 : w = 4 → candTo s w 1 < 8 := fun h => by
    show (if w = 1 then (s.getD 0 0).toNat else (s.getD 0 0).toNat % 2 ^ (7 - w)) < 8
    subst h
    rw [if_neg (by omega)]
    exact Nat.mod_lt _ (by decide)
  rcases hi with rfl | rfl | rfl | rfl
  · omega
  · omega
  · omega
  · have := b4 (by omega)
    omega

/-- Width w finds one. -/
def hits (s : List UInt8) (w : Nat) : Bool := isSc (cand s w) && decide (s.take (sp8 (cand s w)).length = sp8 (cand s w))
theorem hits_dec {s : List UInt8} {w : Nat} (h : hits s w = true) : dec s = some (cand s w, (sp8 (cand s w)).length) := by
  simp only [hits, Bool.and_eq_true, decide_eq_true_eq] at h
  have := dec_sp8 (cand s w) (s.drop (sp8 (cand s w)).length) h.1
  rw [← h.2, List.length_take] at this
  have hle : (sp8 (cand s w)).length ≤ s.length := by
    have := congrArg List.length h.2
    rw [List.length_take] at this
    omega
  rw [Nat.min_eq_left hle, List.take_append_drop] at this
  exact this
theorem no_hits {s : List UInt8} (h : ∀ w, 1 ≤ w → w ≤ 4 → w ≤ s.length → hits s w = false) : dec s = none := by
  cases hd : dec s with
  | none => rfl
  | some p =>
    obtain ⟨c, w⟩ := p
    obtain ⟨h1, h2, h3, h4, h5, h6, h7⟩ := dec_found hd
    have := h w h2 h3 h1
    rw [hits, h4, h5, h6] at this
    simp [h7] at this

/-- What FirstScalar returns. -/
def firstV (s : List UInt8) : Int × Int × Bool := match dec s with | some (c, w) => (c, w, true) | none => (0, 0, false)
theorem tup3b {k1 k2 : IntKind} {a b a' b' : Int} {c c' : Bool} (h1 : a = a') (h2 : b = b') (h3 : c = c') : Ending.returned (.tuple #[.int k1 a, .int k2 b, .bool c]) = .returned (.tuple #[.int k1 a', .int k2 b', .bool c']) := by rw [h1, h2, h3]
theorem getD_lt {l : List UInt8} {k : Nat} (h : k < l.length) : l.getD k 0 = l[k] := by simp [List.getD, h]

set_option maxRecDepth 10000 in
set_option maxHeartbeats 1000000 in
theorem firstScalar_c (v : Value) (s : List UInt8) (w : World) (hs : Bs w v s) (hl : s.length ≤ 1000000) :
    Calls Try.prog 29 #[v] w fun e w' => e = .returned (.tuple #[.int .i64 (firstV s).1, .int .i64 (firstV s).2.1, .bool (firstV s).2.2]) ∧ Keep w w' := by
  have hs0 := hs
  obtain ⟨a, c, rfl, hac, hcm, hca⟩ := hs.form
  unfold maxLen at hcm
  go_enter Try.func29, Try.ntmps29
  go_wp2
  go_loopw [2, 5] (fun cv wv wr => ∃ q : Nat, 1 ≤ q ∧ q ≤ 5 ∧ wv = .int .i64 q ∧ (∀ u, 1 ≤ u → u < q → u ≤ s.length → hits s u = false) ∧ Keep w wr) (fun _ wv _ => 5 - (intOf wv).toNat)
  case atStart => exact ⟨1, by omega, by omega, rfl, fun u h1 h2 => by omega, Keep.refl _⟩
  case round =>
    obtain ⟨q, hq1, hq5, rfl, hno, kw⟩ := hrel
    have HNO := Hid.mk hno
    clear hno
    by_cases hq4 : (q : Int) ≤ 4
    · by_cases hqs : (q : Int) ≤ s.length
      · obtain ⟨b, o, rfl, c0⟩ := hca 0 (by omega)
        rw [Nat.add_zero] at c0
        replace c0 := kw.cell c0
        have hs1 : (0 : Int) < s.length := by omega
        have hp : ∃ p : Nat, p = 2 ^ (7 - q) ∧ 0 < p := ⟨_, rfl, Nat.two_pow_pos _⟩
        obtain ⟨p, hpe, hpos⟩ := hp
        have hsh : 2 ≤ q → (256 : Int) / 2 ^ (q + 1) = (p : Int) := fun h2 => by
          have : q = 2 ∨ q = 3 ∨ q = 4 := by omega
          rw [hpe]
          rcases this with rfl | rfl | rfl <;> decide
        have hsplit : (¬ (q : Int) > 1 ∧ candTo s q 1 = s[0].toNat) ∨ ((q : Int) > 1 ∧ (256 : Int) / 2 ^ (q + 1) = (p : Int) ∧ candTo s q 1 = s[0].toNat % p) := by
          by_cases h : q = 1
          · refine Or.inl ⟨by omega, ?_⟩
            show (if q = 1 then (s.getD 0 0).toNat else (s.getD 0 0).toNat % 2 ^ (7 - q)) = _
            rw [if_pos h, getD_lt (by omega)]
          · refine Or.inr ⟨by omega, hsh (by omega), ?_⟩
            show (if q = 1 then (s.getD 0 0).toNat else (s.getD 0 0).toNat % 2 ^ (7 - q)) = _
            rw [if_neg h, getD_lt (by omega), hpe]
        have hx0 := UInt8.toNat_lt s[0]
        generalize s[0] = x0 at *
        have HP := Hid.mk hpe
        clear hsh hpe
        have hsplit' : (¬ (q : Int) > 1 ∧ Hid (candTo s q 1 = x0.toNat)) ∨ ((q : Int) > 1 ∧ (256 : Int) / 2 ^ (q + 1) = (p : Int) ∧ Hid (candTo s q 1 = x0.toNat % p)) := hsplit
        clear hsplit
        rcases hsplit' with ⟨g1, g2⟩ | ⟨g1, g3, g2⟩
        all_goals
          have hpz : ¬ (p : Int) = 0 := by omega
          go_wp2_with fail
          go_loopw [2, 6] (fun cv iv wq => ∃ i : Nat, 1 ≤ i ∧ i ≤ q ∧ iv = .int .i64 i ∧ cv = .int .i64 (candTo s q i : Nat) ∧ wq = wr) (fun _ iv _ => q - (intOf iv).toNat)
          case atStart => exact ⟨1, by omega, by omega, rfl, by first | (rw [g2.out]; done) | (rw [g2.out]; go_num), rfl⟩
          case round =>
            obtain ⟨i, hi1, hiq, rfl, rfl, rfl⟩ := hrel
            have hcb := candTo_lt s q hq1 (by omega) i hi1 hiq
            by_cases hiq2 : (i : Int) < q
            · have hil : i < s.length := by omega
              obtain ⟨b', o', hbo, ci⟩ := hca i hil
              simp only [Option.some.injEq, Addr.mk.injEq, and_true] at hbo
              obtain ⟨rfl, rfl⟩ := hbo
              replace ci := kw.cell ci
              have hsucc := candTo_succ s q i hi1
              rw [getD_lt hil] at hsucc
              have hcb2 : (candTo s q i : Int) < 4000000 := by omega
              generalize candTo s q i = ct at *
              have hy := UInt8.toNat_lt s[i]
              generalize s[i] = y at *
              have HSU := Hid.mk hsucc
              clear hsucc hcb
              have i7 : (i : Int) < s.length := by omega
              go_wp2
              go_roundw
              case rel => exact ⟨i + 1, by omega, by omega, by go_num, by rw [HSU.out]; go_num, by first | rfl | trivial⟩
              case measure => simp [intOf]; omega
            · have hiq3 : i = q := by omega
              subst hiq3
              have hceq := candTo_eq s i hq1 (by omega)
              rw [hceq] at hcb ⊢
              clear hceq g2
              have hcb2 : (cand s i : Int) < 4000000 := by omega
              have HH : Hid (hits s i = (isSc (cand s i) && decide (s.take (sp8 (cand s i)).length = sp8 (cand s i)))) := rfl
              have HDEC : Hid (hits s i = true → dec s = some (cand s i, (sp8 (cand s i)).length)) := hits_dec
              generalize cand s i = cc at *
              go_wp2_with fail
              refine (isScalar_c cc _ hcb).mono ?_
              rintro e w1 ⟨rfl, rfl⟩
              cases hsc : isSc cc with
              | false =>
                have hhit : hits s i = false := by rw [HH.out, hsc]; rfl
                have HHIT := Hid.mk hhit
                clear hhit hsc
                go_wp2
                go_roundw
                case rel =>
                  refine ⟨i + 1, by omega, by omega, by go_num, fun u h1 h2 h3 => ?_, kw⟩
                  by_cases hu : u = i
                  · subst hu; exact HHIT.out
                  · exact HNO.out u h1 (by omega) h3
                case measure => simp [intOf]; omega
              | true =>
                have hccb : cc ≤ 1114111 := by have := (isSc_iff cc).1 hsc; omega
                have HSC := Hid.mk hsc
                have HCB := Hid.mk hccb
                clear hsc hccb
                go_wp2_with fail
                refine (spell8_c cc w1 HCB.out).mono ?_
                rintro e w2 ⟨v2, rfl, ow2, k2⟩
                go_wp2_with fail
                refine (startsWith_c _ _ s (sp8 cc) w2 (hs0.keep (kw.trans k2)) ow2.bs hl).mono ?_
                rintro e w3 ⟨rfl, k3⟩
                have kw3 := (kw.trans k2).trans k3
                cases hpre : decide (s.take (sp8 cc).length = sp8 cc) with
                | false =>
                  have hhit : hits s i = false := by rw [HH.out, HSC.out, hpre]; rfl
                  have HHIT := Hid.mk hhit
                  clear hhit hpre
                  go_wp2
                  go_roundw
                  case rel =>
                    refine ⟨i + 1, by omega, by omega, by go_num, fun u h1 h2 h3 => ?_, kw3⟩
                    by_cases hu : u = i
                    · subst hu; exact HHIT.out
                    · exact HNO.out u h1 (by omega) h3
                  case measure => simp [intOf]; omega
                | true =>
                  have hhit : hits s i = true := by rw [HH.out, HSC.out, hpre]; rfl
                  have HD := Hid.mk (HDEC.out hhit)
                  clear hhit hpre ow2
                  go_wp2_with fail
                  refine (spell8_c cc w3 HCB.out).mono ?_
                  rintro e w4 ⟨v4, rfl, ow4, k4⟩
                  obtain ⟨a4, c4, hv4, _, _, _⟩ := ow4.bs.form
                  subst hv4
                  go_wp2
                  go_ret3
                  refine ⟨tup3b ?_ ?_ ?_, kw3.trans k4⟩ <;> rw [firstV, HD.out]
      · have hnone : dec s = none := no_hits (fun u h1 h2 h3 => HNO.out u h1 (by omega) h3)
        have HD := Hid.mk hnone
        clear hnone
        go_wp2
        go_ret3
        refine ⟨tup3b ?_ ?_ ?_, kw⟩ <;> rw [firstV, HD.out]
    · have hnone : dec s = none := no_hits (fun u h1 h2 h3 => HNO.out u h1 (by omega) h3)
      have HD := Hid.mk hnone
      clear hnone
      go_wp2
      go_ret3
      refine ⟨tup3b ?_ ?_ ?_, kw⟩ <;> rw [firstV, HD.out]
end Go.Proofs.Qxb6500770a
