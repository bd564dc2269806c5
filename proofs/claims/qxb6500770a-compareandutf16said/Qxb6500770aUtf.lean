/- UTF-8 and UTF-16 on plain lists. No Go. -/
import Init
namespace Go.Proofs.Qxb6500770a

def isSc (c : Nat) : Bool := decide (c ≤ 55295) || (decide (57344 ≤ c) && decide (c ≤ 1114111))
def ob (n : Nat) : UInt8 := UInt8.ofNat n
theorem ob_val (n : Nat) : (ob n).toNat = n % 256 := rfl
theorem ob_eq {n : Nat} {x : UInt8} (h : ob n = x) : n % 256 = x.toNat := by rw [← h, ob_val]
theorem eq_ob {n : Nat} {x : UInt8} (h : n % 256 = x.toNat) : ob n = x := UInt8.toNat_inj.1 (by rw [ob_val, h])

def sp8 (c : Nat) : List UInt8 :=
  if c ≤ 127 then [ob c]
  else if c ≤ 2047 then [ob (192 + c / 64), ob (128 + c % 64)]
  else if c ≤ 65535 then [ob (224 + c / 4096), ob (128 + c / 64 % 64), ob (128 + c % 64)]
  else [ob (240 + c / 262144), ob (128 + c / 4096 % 64), ob (128 + c / 64 % 64), ob (128 + c % 64)]
def sp16 (c : Nat) : List UInt8 :=
  if c ≤ 65535 then [ob (c % 256), ob (c / 256)]
  else [ob ((55296 + (c - 65536) / 1024) % 256), ob ((55296 + (c - 65536) / 1024) / 256), ob ((56320 + (c - 65536) % 1024) % 256), ob ((56320 + (c - 65536) % 1024) / 256)]

/-- The scalar value that s begins with, by the table; with its width. -/
def dec : List UInt8 → Option (Nat × Nat)
  | [] => none
  | a :: t =>
    if a.toNat < 128 then some (a.toNat, 1)
    else if a.toNat < 194 then none
    else if a.toNat < 224 then
      match t with
      | b :: _ => if 128 ≤ b.toNat ∧ b.toNat ≤ 191 then some (a.toNat % 32 * 64 + b.toNat % 64, 2) else none
      | _ => none
    else if a.toNat < 240 then
      match t with
      | b :: d :: _ =>
        if ((if a.toNat = 224 then 160 else 128) ≤ b.toNat ∧ b.toNat ≤ (if a.toNat = 237 then 159 else 191)) ∧ (128 ≤ d.toNat ∧ d.toNat ≤ 191) then some ((a.toNat % 16 * 64 + b.toNat % 64) * 64 + d.toNat % 64, 3) else none
      | _ => none
    else if a.toNat < 245 then
      match t with
      | b :: d :: e :: _ =>
        if ((if a.toNat = 240 then 144 else 128) ≤ b.toNat ∧ b.toNat ≤ (if a.toNat = 244 then 143 else 191)) ∧ (128 ≤ d.toNat ∧ d.toNat ≤ 191) ∧ (128 ≤ e.toNat ∧ e.toNat ≤ 191) then
          some (((a.toNat % 8 * 64 + b.toNat % 64) * 64 + d.toNat % 64) * 64 + e.toNat % 64, 4) else none
      | _ => none
    else none

theorem isSc_iff (c : Nat) : isSc c = true ↔ c ≤ 55295 ∨ (57344 ≤ c ∧ c ≤ 1114111) := by simp [isSc]

theorem sp8_pos (c : Nat) : 1 ≤ (sp8 c).length ∧ (sp8 c).length ≤ 4 := by
  unfold sp8
  split
  · simp
  · split
    · simp
    · split <;> simp

theorem dec1 {a : UInt8} {t : List UInt8} (h : a.toNat < 128) : dec (a :: t) = some (a.toNat, 1) := by
  unfold dec
  simp only
  rw [if_pos h]
theorem dec2 {a b : UInt8} {t : List UInt8} (h1 : 194 ≤ a.toNat) (h2 : a.toNat < 224) (h3 : 128 ≤ b.toNat ∧ b.toNat ≤ 191) : dec (a :: b :: t) = some (a.toNat % 32 * 64 + b.toNat % 64, 2) := by
  unfold dec
  simp only
  rw [if_neg (by omega), if_neg (by omega), if_pos h2]
  rw [if_pos h3]
theorem dec3 {a b d : UInt8} {t : List UInt8} (h1 : 224 ≤ a.toNat) (h2 : a.toNat < 240) (h3 : (if a.toNat = 224 then 160 else 128) ≤ b.toNat ∧ b.toNat ≤ (if a.toNat = 237 then 159 else 191)) (h4 : 128 ≤ d.toNat ∧ d.toNat ≤ 191) :
    dec (a :: b :: d :: t) = some ((a.toNat % 16 * 64 + b.toNat % 64) * 64 + d.toNat % 64, 3) := by
  unfold dec
  simp only
  rw [if_neg (by omega), if_neg (by omega), if_neg (by omega), if_pos h2]
  rw [if_pos ⟨h3, h4⟩]
theorem dec3n {a b d : UInt8} {t : List UInt8} (h1 : 224 ≤ a.toNat) (h2 : a.toNat < 240) (h3 : ¬ ((if a.toNat = 224 then 160 else 128) ≤ b.toNat ∧ b.toNat ≤ (if a.toNat = 237 then 159 else 191))) : dec (a :: b :: d :: t) = none := by
  unfold dec
  simp only
  rw [if_neg (by omega), if_neg (by omega), if_neg (by omega), if_pos h2]
  rw [if_neg (fun h => h3 h.1)]
theorem dec4 {a b d e : UInt8} {t : List UInt8} (h1 : 240 ≤ a.toNat) (h2 : a.toNat < 245) (h3 : (if a.toNat = 240 then 144 else 128) ≤ b.toNat ∧ b.toNat ≤ (if a.toNat = 244 then 143 else 191)) (h4 : 128 ≤ d.toNat ∧ d.toNat ≤ 191) (h5 : 128 ≤ e.toNat ∧ e.toNat ≤ 191) :
    dec (a :: b :: d :: e :: t) = some (((a.toNat % 8 * 64 + b.toNat % 64) * 64 + d.toNat % 64) * 64 + e.toNat % 64, 4) := by
  unfold dec
  simp only
  rw [if_neg (by omega), if_neg (by omega), if_neg (by omega), if_neg (by omega), if_pos h2]
  rw [if_pos ⟨h3, h4, h5⟩]

/-- What a scalar value's spelling begins with is that value. -/
theorem dec_sp8 (c : Nat) (t : List UInt8) (h : isSc c = true) : dec (sp8 c ++ t) = some (c, (sp8 c).length) := by
  rw [isSc_iff] at h
  unfold sp8
  split
  · rw [List.singleton_append, dec1 (by rw [ob_val]; omega), ob_val, Nat.mod_eq_of_lt (by omega)]; rfl
  · split
    · simp only [List.cons_append, List.nil_append]
      rw [dec2 (by rw [ob_val]; omega) (by rw [ob_val]; omega) (by rw [ob_val]; omega), ob_val, ob_val]
      simp only [List.length_cons, List.length_nil, Option.some.injEq, Prod.mk.injEq, and_true]
      omega
    · split
      · simp only [List.cons_append, List.nil_append]
        rw [dec3 (by rw [ob_val]; omega) (by rw [ob_val]; omega) (by rw [ob_val, ob_val]; constructor <;> split <;> omega) (by rw [ob_val]; omega), ob_val, ob_val, ob_val]
        simp only [List.length_cons, List.length_nil, Option.some.injEq, Prod.mk.injEq, and_true]
        omega
      · simp only [List.cons_append, List.nil_append]
        rw [dec4 (by rw [ob_val]; omega) (by rw [ob_val]; omega) (by rw [ob_val, ob_val]; constructor <;> split <;> omega) (by rw [ob_val]; omega) (by rw [ob_val]; omega), ob_val, ob_val, ob_val, ob_val]
        simp only [List.length_cons, List.length_nil, Option.some.injEq, Prod.mk.injEq, and_true]
        omega

/-- A surrogate's spelling is refused. -/
theorem dec_surrogate (c : Nat) (t : List UInt8) (h : isSc c = false) (hc : c ≤ 1114111) : dec (sp8 c ++ t) = none := by
  have h' : ¬ (c ≤ 55295 ∨ (57344 ≤ c ∧ c ≤ 1114111)) := by rw [← isSc_iff, h]; simp
  unfold sp8
  rw [if_neg (by omega), if_neg (by omega), if_pos (by omega)]
  simp only [List.cons_append, List.nil_append]
  refine dec3n (by rw [ob_val]; omega) (by rw [ob_val]; omega) ?_
  rw [ob_val, ob_val, if_pos (show (224 + c / 4096) % 256 = 237 by omega)]
  omega

/-- The candidate of width w. -/
def cand (s : List UInt8) (w : Nat) : Nat :=
  let g := fun i => (s.getD i 0).toNat
  if w = 1 then g 0 else if w = 2 then g 0 % 32 * 64 + g 1 % 64 else if w = 3 then (g 0 % 16 * 64 + g 1 % 64) * 64 + g 2 % 64 else ((g 0 % 8 * 64 + g 1 % 64) * 64 + g 2 % 64) * 64 + g 3 % 64

theorem dec_found {s : List UInt8} {c w : Nat} (h : dec s = some (c, w)) : w ≤ s.length ∧ 1 ≤ w ∧ w ≤ 4 ∧ cand s w = c ∧ isSc c = true ∧ (sp8 c).length = w ∧ sp8 c = s.take w := by
  match s with
  | [] => simp [dec] at h
  | a :: t =>
    have ha := UInt8.toNat_lt a
    unfold dec at h
    simp only at h
    split at h
    · rename_i h1
      simp only [Option.some.injEq, Prod.mk.injEq] at h
      obtain ⟨rfl, rfl⟩ := h
      refine ⟨by simp, by omega, by omega, by simp [cand], (isSc_iff _).2 (by omega), by unfold sp8; rw [if_pos (by omega)]; rfl, ?_⟩
      unfold sp8
      rw [if_pos (by omega)]
      simp only [List.take_succ_cons, List.take_zero, List.cons.injEq, and_true]
      exact eq_ob (by omega)
    · split at h
      · cases h
      · split at h
        · match t with
          | [] => simp at h
          | b :: t =>
            have hb := UInt8.toNat_lt b
            simp only at h
            split at h
            · simp only [Option.some.injEq, Prod.mk.injEq] at h
              obtain ⟨rfl, rfl⟩ := h
              have hs : sp8 (a.toNat % 32 * 64 + b.toNat % 64) = [a, b] := by
                unfold sp8
                rw [if_neg (by omega), if_pos (by omega)]
                rw [eq_ob (x := a) (by omega), eq_ob (x := b) (by omega)]
              refine ⟨by simp, by omega, by omega, by simp [cand], (isSc_iff _).2 (by omega), by rw [hs]; rfl, by rw [hs]; rfl⟩
            · cases h
        · split at h
          · match t with
            | [] => simp at h
            | [b] => simp at h
            | b :: d :: t =>
              have hb := UInt8.toNat_lt b
              have hd := UInt8.toNat_lt d
              simp only at h
              by_cases hh : ((if a.toNat = 224 then 160 else 128) ≤ b.toNat ∧ b.toNat ≤ (if a.toNat = 237 then 159 else 191)) ∧ (128 ≤ d.toNat ∧ d.toNat ≤ 191)
              · rw [if_pos hh] at h
                obtain ⟨⟨h1, h2⟩, h3, h4⟩ := hh
                have h1' : (a.toNat = 224 → 160 ≤ b.toNat) ∧ 128 ≤ b.toNat := by split at h1 <;> omega
                have h2' : (a.toNat = 237 → b.toNat ≤ 159) ∧ b.toNat ≤ 191 := by split at h2 <;> omega
                clear h1 h2
                simp only [Option.some.injEq, Prod.mk.injEq] at h
                obtain ⟨rfl, rfl⟩ := h
                have hs : sp8 ((a.toNat % 16 * 64 + b.toNat % 64) * 64 + d.toNat % 64) = [a, b, d] := by
                  unfold sp8
                  rw [if_neg (by omega), if_neg (by omega), if_pos (by omega)]
                  rw [eq_ob (x := a) (by omega), eq_ob (x := b) (by omega), eq_ob (x := d) (by omega)]
                refine ⟨by simp, by omega, by omega, by simp [cand], (isSc_iff _).2 (by omega), by rw [hs]; rfl, by rw [hs]; rfl⟩
              · rw [if_neg hh] at h; cases h
          · split at h
            · match t with
              | [] => simp at h
              | [b] => simp at h
              | [b, d] => simp at h
              | b :: d :: e :: t =>
                have hb := UInt8.toNat_lt b
                have hd := UInt8.toNat_lt d
                have he := UInt8.toNat_lt e
                simp only at h
                by_cases hh : ((if a.toNat = 240 then 144 else 128) ≤ b.toNat ∧ b.toNat ≤ (if a.toNat = 244 then 143 else 191)) ∧ (128 ≤ d.toNat ∧ d.toNat ≤ 191) ∧ (128 ≤ e.toNat ∧ e.toNat ≤ 191)
                · rw [if_pos hh] at h
                  obtain ⟨⟨h1, h2⟩, ⟨h3, h4⟩, h5, h6⟩ := hh
                  have h1' : (a.toNat = 240 → 144 ≤ b.toNat) ∧ 128 ≤ b.toNat := by split at h1 <;> omega
                  have h2' : (a.toNat = 244 → b.toNat ≤ 143) ∧ b.toNat ≤ 191 := by split at h2 <;> omega
                  clear h1 h2
                  simp only [Option.some.injEq, Prod.mk.injEq] at h
                  obtain ⟨rfl, rfl⟩ := h
                  have hs : sp8 (((a.toNat % 8 * 64 + b.toNat % 64) * 64 + d.toNat % 64) * 64 + e.toNat % 64) = [a, b, d, e] := by
                    unfold sp8
                    rw [if_neg (by omega), if_neg (by omega), if_neg (by omega)]
                    rw [eq_ob (x := a) (by omega), eq_ob (x := b) (by omega), eq_ob (x := d) (by omega), eq_ob (x := e) (by omega)]
                  refine ⟨by simp, by omega, by omega, by simp [cand], (isSc_iff _).2 (by omega), by rw [hs]; rfl, by rw [hs]; rfl⟩
                · rw [if_neg hh] at h; cases h
            · cases h

/-- The scalar values that s spells. -/
def scal : Nat → List UInt8 → Option (List Nat)
  | 0, s => if s = [] then some [] else none
  | f + 1, s => if s = [] then some [] else match dec s with
    | none => none
    | some (c, w) => (scal f (s.drop w)).map (c :: ·)
theorem scal_more : ∀ (f g : Nat) (s : List UInt8), s.length ≤ f → s.length ≤ g → scal f s = scal g s
  | 0, 0, s, _, _ => rfl
  | 0, g + 1, s, h, _ => by
    have : s = [] := List.eq_nil_of_length_eq_zero (by omega)
    subst this; simp [scal]
  | f + 1, 0, s, _, h => by
    have : s = [] := List.eq_nil_of_length_eq_zero (by omega)
    subst this; simp [scal]
  | f + 1, g + 1, s, h1, h2 => by
    unfold scal
    split
    · rfl
    · cases hd : dec s with
      | none => rfl
      | some p =>
        obtain ⟨c, w⟩ := p
        obtain ⟨hw, hw1, _⟩ := dec_found hd
        simp only
        rw [scal_more f g (s.drop w) (by simp; omega) (by simp; omega)]
def sc (s : List UInt8) : Option (List Nat) := scal s.length s
theorem sc_nil : sc [] = some [] := rfl
theorem sc_none {s : List UInt8} (hs : s ≠ []) (h : dec s = none) : sc s = none := by
  unfold sc
  cases hl : s.length with
  | zero => exact absurd (List.eq_nil_of_length_eq_zero hl) hs
  | succ n => unfold scal; rw [if_neg hs, h]
theorem sc_some {s : List UInt8} {c w : Nat} (h : dec s = some (c, w)) : sc s = (sc (s.drop w)).map (c :: ·) := by
  obtain ⟨hw, hw1, _⟩ := dec_found h
  have hs : s ≠ [] := by intro e; subst e; simp at hw; omega
  unfold sc
  cases hl : s.length with
  | zero => exact absurd (List.eq_nil_of_length_eq_zero hl) hs
  | succ n =>
    conv => lhs; unfold scal
    rw [if_neg hs, h]
    simp only
    rw [scal_more n (s.drop w).length (s.drop w) (by simp; omega) (Nat.le_refl _)]
theorem sc_app (c : Nat) (t : List UInt8) (h : isSc c = true) : sc (sp8 c ++ t) = (sc t).map (c :: ·) := by
  rw [sc_some (dec_sp8 c t h), List.drop_left]

/-- The UTF-16LE form of a list of scalar values. -/
def u16s : List Nat → List UInt8
  | [] => []
  | c :: r => sp16 c ++ u16s r
theorem u16s_append (a b : List Nat) : u16s (a ++ b) = u16s a ++ u16s b := by
  induction a with
  | nil => rfl
  | cons c r ih => simp [u16s, ih]
theorem sp16_length (c : Nat) : (sp16 c).length = if c ≤ 65535 then 2 else 4 := by unfold sp16; split <;> rfl
theorem sc_bound : ∀ (f : Nat) (s : List UInt8) (cs : List Nat), scal f s = some cs → (∀ c ∈ cs, isSc c = true) ∧ (u16s cs).length ≤ 2 * s.length ∧ cs.length ≤ s.length
  | 0, s, cs, h => by
    unfold scal at h
    split at h
    · simp only [Option.some.injEq] at h; subst h; simp [u16s]
    · cases h
  | f + 1, s, cs, h => by
    unfold scal at h
    split at h
    · simp only [Option.some.injEq] at h; subst h; simp [u16s]
    · cases hd : dec s with
      | none => rw [hd] at h; cases h
      | some p =>
        obtain ⟨c, w⟩ := p
        rw [hd] at h
        simp only [Option.map_eq_some_iff] at h
        obtain ⟨r, hr, rfl⟩ := h
        obtain ⟨hw, hw1, hw4, _, hsc, hsp, _⟩ := dec_found hd
        obtain ⟨h1, h2, h3⟩ := sc_bound f _ r hr
        simp only [List.length_drop] at h2 h3
        refine ⟨fun x hx => ?_, ?_, by simp; omega⟩
        · rcases List.mem_cons.1 hx with rfl | hx
          · exact hsc
          · exact h1 x hx
        · have hl : (sp16 c).length ≤ 2 * w := by
            rw [sp16_length]
            split
            · omega
            · rename_i h5
              have : w = 4 := by
                rw [← hsp]; unfold sp8
                rw [if_neg (by omega), if_neg (by omega), if_neg (by omega)]; rfl
              omega
          simp only [u16s, List.length_append]
          omega
end Go.Proofs.Qxb6500770a
