/- modes: CTSEncrypt and CTSDecrypt of one block or more. -/
import Derived.Test.Qxb6500769aDt
import Derived.Test.Qxb6500769aPj
namespace Go.Proofs.Qxb6500769a
open Go.RowKit Go.Qm
set_option linter.unusedVariables false
set_option linter.unusedSimpArgs false
def qN (n b : Nat) : Nat := (n - b - tailN n b) / b
theorem cut_of {n b : Nat} (hb : b ≠ 0) (h : b < n) : n = b * qN n b + b + tailN n b ∧ 1 ≤ tailN n b ∧ tailN n b ≤ b := by
  have e := Nat.div_add_mod n b
  have hlt := Nat.mod_lt n (by omega : b > 0)
  unfold qN tailN
  by_cases h0 : n % b = 0
  · rw [if_pos h0]
    refine ⟨?_, by omega, by omega⟩
    have h2 : 2 ≤ n / b := by
      rcases Nat.lt_or_ge (n / b) 2 with h3 | h3
      · have : b * (n / b) ≤ b * 1 := Nat.mul_le_mul_left b (by omega)
        omega
      · exact h3
    obtain ⟨k, hk⟩ : ∃ k, n / b = k + 2 := ⟨n / b - 2, by omega⟩
    rw [hk, Nat.mul_add] at e
    rw [show n - b - b = b * k by omega, Nat.mul_div_cancel_left _ (by omega)]
    omega
  · rw [if_neg h0]
    refine ⟨?_, by omega, by omega⟩
    have h2 : 1 ≤ n / b := (Nat.one_le_div_iff (by omega)).2 (by omega)
    obtain ⟨k, hk⟩ : ∃ k, n / b = k + 1 := ⟨n / b - 1, by omega⟩
    rw [hk, Nat.mul_add] at e
    rw [show n - b - n % b = b * k by omega, Nat.mul_div_cancel_left _ (by omega)]
    omega
def csE (f : List UInt8 → List UInt8) (b : Nat) (iv src : List UInt8) : List UInt8 := if src.length = b then cbcE f b iv src 1 else ctsE f b iv src (qN src.length b) (tailN src.length b)
def csD (f : List UInt8 → List UInt8) (b : Nat) (iv src : List UInt8) : List UInt8 := if src.length = b then cbcD f b iv src 1 else ctsD f b iv src (qN src.length b) (tailN src.length b)
section
variable {f g : List UInt8 → List UInt8} {b : Nat} {iv src : List UInt8} (hf : ∀ l, l.length = b → (f l).length = b) (hg : ∀ l, l.length = b → (g l).length = b) (hi : iv.length = b) (hb : b ≠ 0) (hs : b ≤ src.length)
include hf hg hi hb hs
set_option linter.unusedSectionVars false
theorem csE_length : (csE f b iv src).length = src.length := by
  unfold csE
  by_cases h : src.length = b
  · rw [if_pos h, cbcE_length hf hi (m := 1) (by omega) 1 (Nat.le_refl _)]; omega
  · rw [if_neg h]
    obtain ⟨h1, h2, h3⟩ := cut_of hb (show b < src.length by omega)
    exact ctsE_length hf hg hi h1 h3
theorem csD_length : (csD g b iv src).length = src.length := by
  unfold csD
  by_cases h : src.length = b
  · rw [if_pos h, cbcD_length hg hi (m := 1) (by omega) 1 (Nat.le_refl _)]; omega
  · rw [if_neg h]
    obtain ⟨h1, h2, h3⟩ := cut_of hb (show b < src.length by omega)
    exact ctsD_length hf hg hi h1 h3
theorem csD_E (hgf : ∀ l, l.length = b → g (f l) = l) : csD g b iv (csE f b iv src) = src := by
  have hl := csE_length hf hg hi hb hs
  unfold csD
  rw [hl]
  unfold csE
  by_cases h : src.length = b
  · rw [if_pos h, if_pos h]
    have := cbcD_E hf hi hgf 1 (src := src) (by omega) [] 1 (Nat.le_refl _)
    rw [List.append_nil] at this
    rw [this, List.take_of_length_le (by omega)]
  · rw [if_neg h, if_neg h]
    obtain ⟨h1, h2, h3⟩ := cut_of hb (show b < src.length by omega)
    exact ctsD_E hf hg hi hgf h1 h3
theorem csE_D (hfg : ∀ l, l.length = b → f (g l) = l) : csE f b iv (csD g b iv src) = src := by
  have hl := csD_length hf hg hi hb hs
  unfold csE
  rw [hl]
  unfold csD
  by_cases h : src.length = b
  · rw [if_pos h, if_pos h]
    have := cbcE_D hg hi hfg 1 (src := src) (by omega) [] 1 (Nat.le_refl _)
    rw [List.append_nil] at this
    rw [this, List.take_of_length_le (by omega)]
  · rw [if_neg h, if_neg h]
    obtain ⟨h1, h2, h3⟩ := cut_of hb (show b < src.length by omega)
    exact ctsE_D hf hg hi hfg h1 h3
end
theorem encCS_c (al : Int) (ka : Option Addr) (kn kc : Nat) (key : List UInt8) (f : List UInt8 → List UInt8) (b n : Nat) (ivv sv : Value) (iv src cur : List UInt8) (g dc : Nat) (sp : List Value) (w : World)
    (hC : Cip 22 b al (.slice ka kn kc) key f) (hbs : bsz16 al = b) (hb0 : b ≠ 0) (hb1 : b ≤ 16) (hbn : b ≤ n) (hnm : n ≤ 90000)
    (hkl : key.length ≠ 0) (hkb : Bs w (.slice ka kn kc) key) (hkg : (Value.slice ka kn kc).ownBlock ≠ some g)
    (hiv : Bs w ivv iv) (hil : iv.length = b) (hig : ivv.ownBlock ≠ some g)
    (hsv : Bs w sv src) (hsl : src.length = n) (hsg : sv.ownBlock ≠ some g)
    (hw : Win w g 5 [] cur sp) (hcl : cur.length = n) (hdc : n ≤ dc) (hdm : dc ≤ maxLen) :
    Calls Try.prog 19 #[.agg #[.int .i64 al, .slice ka kn kc], ivv, .slice (some ⟨g, 0, none⟩) n dc, sv] w fun e w' =>
      e = .returned (.int .i64 0) ∧ Win w' g 5 [] (csE f b iv src) sp ∧ w.grownBy w' (some g) := by
  unfold csE
  by_cases h : n = b
  · subst h
    rw [if_pos hsl]
    refine (CTSone_c al ka kn kc key f n ivv sv iv src cur g dc sp w hC hbs hb0 hb1 hkl hkb hkg hiv hil hig hsv hsl hsg hw (by omega) (by omega) hdm).mono ?_
    rintro e w' ⟨rfl, h1, h2⟩
    rw [List.drop_of_length_le (by omega), List.append_nil] at h1
    exact ⟨rfl, h1, h2⟩
  · rw [if_neg (by omega), hsl]
    obtain ⟨h1, h2, h3⟩ := cut_of hb0 (show b < n by omega)
    exact CTSE_c al ka kn kc key f b n _ _ ivv sv iv src cur g dc sp w hC hbs hb0 hb1 h1 h2 h3 (by omega) hkl hkb hkg hiv hil hig hsv hsl hsg hw hcl (by omega) hdm
theorem decCS_c (al : Int) (ka : Option Addr) (kn kc : Nat) (key : List UInt8) (f : List UInt8 → List UInt8) (b n : Nat) (ivv sv : Value) (iv src cur : List UInt8) (g dc : Nat) (sp : List Value) (w : World)
    (hC : Cip 46 b al (.slice ka kn kc) key f) (hbs : bsz16 al = b) (hb0 : b ≠ 0) (hb1 : b ≤ 16) (hbn : b ≤ n) (hnm : n ≤ 90000)
    (hkl : key.length ≠ 0) (hkb : Bs w (.slice ka kn kc) key) (hkg : (Value.slice ka kn kc).ownBlock ≠ some g)
    (hiv : Bs w ivv iv) (hil : iv.length = b) (hig : ivv.ownBlock ≠ some g)
    (hsv : Bs w sv src) (hsl : src.length = n) (hsg : sv.ownBlock ≠ some g)
    (hw : Win w g 5 [] cur sp) (hcl : cur.length = n) (hdc : n ≤ dc) (hdm : dc ≤ maxLen) :
    Calls Try.prog 20 #[.agg #[.int .i64 al, .slice ka kn kc], ivv, .slice (some ⟨g, 0, none⟩) n dc, sv] w fun e w' =>
      e = .returned (.int .i64 0) ∧ Win w' g 5 [] (csD f b iv src) sp ∧ w.grownBy w' (some g) := by
  unfold csD
  by_cases h : n = b
  · subst h
    rw [if_pos hsl]
    refine (CTSDone_c al ka kn kc key f n ivv sv iv src cur g dc sp w hC hbs hb0 hb1 hkl hkb hkg hiv hil hig hsv hsl hsg hw (by omega) (by omega) hdm).mono ?_
    rintro e w' ⟨rfl, h1, h2⟩
    rw [List.drop_of_length_le (by omega), List.append_nil] at h1
    exact ⟨rfl, h1, h2⟩
  · rw [if_neg (by omega), hsl]
    obtain ⟨h1, h2, h3⟩ := cut_of hb0 (show b < n by omega)
    exact CTSD_c al ka kn kc key f b n _ _ ivv sv iv src cur g dc sp w hC hbs hb0 hb1 h1 h2 h3 (by omega) hkl hkb hkg hiv hil hig hsv hsl hsg hw hcl (by omega) hdm
end Go.Proofs.Qxb6500769a
