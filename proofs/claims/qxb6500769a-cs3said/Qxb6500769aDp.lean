/- modes: CBCEncrypt; CTSEncrypt and CTSDecrypt at inputs under one block. -/
import Derived.Test.Qxb6500769aDo
namespace Go.Proofs.Qxb6500769a
open Go.RowKit Go.Qm
set_option linter.unusedVariables false
set_option linter.unusedSimpArgs false
attribute [local go_sem ↓] Go.wp_at_zero Go.wp_at_succ

set_option maxHeartbeats 1000000 in
theorem CBCEncrypt_c (al : Int) (ka : Option Addr) (kn kc : Nat) (key : List UInt8) (f : List UInt8 → List UInt8) (b m n : Nat) (ivv sv : Value) (iv src cur : List UInt8) (g dc : Nat) (sp : List Value) (w : World)
    (hC : Cip 22 b al (.slice ka kn kc) key f) (hbs : bsz16 al = b) (hb0 : b ≠ 0) (hb1 : b ≤ 16) (hm : m ≤ 100000) (hn : n = b * m)
    (hkl : key.length ≠ 0) (hkb : Bs w (.slice ka kn kc) key) (hkg : (Value.slice ka kn kc).ownBlock ≠ some g)
    (hiv : Bs w ivv iv) (hil : iv.length = b) (hig : ivv.ownBlock ≠ some g)
    (hsv : Bs w sv src) (hsl : src.length = n) (hsg : sv.ownBlock ≠ some g)
    (hw : Win w g 5 [] cur sp) (hnc : n ≤ cur.length) (hdc : cur.length ≤ dc) (hdm : dc ≤ maxLen) :
    Calls Try.prog 50 #[.agg #[.int .i64 al, .slice ka kn kc], ivv, .slice (some ⟨g, 0, none⟩) n dc, sv] w fun e w' =>
      e = .returned (.int .i64 0) ∧ Win w' g 5 [] (cbcE f b iv src m ++ cur.drop n) sp ∧ w.grownBy w' (some g) := by
  obtain ⟨sa, sc, rfl, hsc, hsm, -⟩ := hsv.form
  obtain ⟨ia, ic, rfl, hic, him, -⟩ := hiv.form
  rw [hsl] at hsv hsg hsc ⊢
  rw [hil] at hiv hig hic ⊢
  have K0 := (Keep.refl w).alloc (.cells #[.int .i64 al, .slice ka kn kc] 36)
  have B0 : Arr (w.alloc (.cells #[.int .i64 al, .slice ka kn kc] 36)) w.heap.size 36 [.int .i64 al, .slice ka kn kc] := Arr.new w 36 _
  have FI := fun W => fit_c al ka kn kc ia (some ⟨g, 0, none⟩) sa b n ic dc sc W hbs hb0 hb1
  have CB := fun W (hk : Keep w W) => cbcEncrypt_c al ka kn kc key f b m n _ _ iv src cur g dc sp W hC hb0 hb1 hm hn hkl (hkb.keep hk) hkg (hiv.keep hk) hil hig (hsv.keep hk) hsl hsg (hw.keep hk) hnc hdc hdm
  have ht : (n : Int).tmod b = 0 := by
    have : ((n % b : Nat) : Int) = (n : Int).tmod b := Int.ofNat_tmod n b
    rw [← this, hn, Nat.mul_mod_right]; rfl
  have hb' : ¬ (b : Int) = 0 := by omega
  unfold maxLen at hdm hsm him
  clear hbs hn hiv hsv hkb hil hsl hw
  go_enter Try.func50, Try.ntmps50
  go_wp2_with fail
  refine (FI _).mono ?_
  rintro e w1 ⟨rfl, k1⟩
  have K1 := K0.trans k1
  have B1 := B0.keep k1
  have r0 := B1.cell 0
  have r1 := B1.cell 1
  simp only [List.getElem?_cons_zero, List.getElem?_cons_succ] at r0 r1
  go_wp2_with fail
  refine (CB _ K1).mono ?_
  rintro e w2 ⟨rfl, h2, g2⟩
  go_wp2
  go_ret
  exact ⟨rfl, h2, ⟨g2.os.trans K1.os, g2.tape.trans K1.tape, g2.output.trans K1.output, Nat.le_trans K1.size g2.size, fun q hq hne => (g2.block q (Nat.lt_of_lt_of_le hq K1.size) hne).trans (K1.block q hq)⟩⟩
/-- CTSEncrypt and CTSDecrypt of less than one block. -/
theorem CTSshort_c (al : Int) (ka : Option Addr) (kn kc : Nat) (b n : Nat) (ia da sa : Option Addr) (ic dc sc : Nat) (w : World) (hbs : bsz16 al = b) (hb0 : b ≠ 0) (hb1 : b ≤ 16) (hlt : n < b) :
    Calls Try.prog 19 #[.agg #[.int .i64 al, .slice ka kn kc], .slice ia b ic, .slice da n dc, .slice sa n sc] w fun e w' => e = .returned (.int .i64 6) ∧ Keep w w' := by
  have K0 := (Keep.refl w).alloc (.cells #[.int .i64 al, .slice ka kn kc] 36)
  have FI := fun W => fit_c al ka kn kc ia da sa b n ic dc sc W hbs hb0 hb1
  have hlt' : (n : Int) < b := by omega
  clear hbs
  go_enter Try.func19, Try.ntmps19
  go_wp2_with fail
  refine (FI _).mono ?_
  rintro e w1 ⟨rfl, k1⟩
  go_wp2
  go_ret
  exact ⟨rfl, K0.trans k1⟩
theorem CTSDshort_c (al : Int) (ka : Option Addr) (kn kc : Nat) (b n : Nat) (ia da sa : Option Addr) (ic dc sc : Nat) (w : World) (hbs : bsz16 al = b) (hb0 : b ≠ 0) (hb1 : b ≤ 16) (hlt : n < b) :
    Calls Try.prog 20 #[.agg #[.int .i64 al, .slice ka kn kc], .slice ia b ic, .slice da n dc, .slice sa n sc] w fun e w' => e = .returned (.int .i64 6) ∧ Keep w w' := by
  have K0 := (Keep.refl w).alloc (.cells #[.int .i64 al, .slice ka kn kc] 36)
  have FI := fun W => fit_c al ka kn kc ia da sa b n ic dc sc W hbs hb0 hb1
  have hlt' : (n : Int) < b := by omega
  clear hbs
  go_enter Try.func20, Try.ntmps20
  go_wp2_with fail
  refine (FI _).mono ?_
  rintro e w1 ⟨rfl, k1⟩
  go_wp2
  go_ret
  exact ⟨rfl, K0.trans k1⟩
end Go.Proofs.Qxb6500769a
