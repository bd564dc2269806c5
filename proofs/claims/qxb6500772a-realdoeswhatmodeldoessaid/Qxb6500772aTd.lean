/- corem: block. -/
import Derived.Test.Qxb6500772aTc
namespace Go.Proofs.Qxb6500772a
open Go.RowKit Go.Qm
set_option linter.unusedVariables false
set_option linter.unusedSimpArgs false
attribute [local go_sem ↓] Go.wp_at_zero Go.wp_at_succ
def blockF (cs : List Cel) (first width n : Int) : Nat :=
  if first < 0 ∨ (cs.length : Int) - n < first then 1
  else if cellsF cs first 1 1 true ≠ 0 then cellsF cs first 1 1 true
  else if cellsF cs (first + 1) 1 width true ≠ 0 then cellsF cs (first + 1) 1 width true
  else if n = 3 then cellsF cs (first + 2) 1 1 true else 0
/-- The program's block: a box of its nine cells. -/
def PrC (cv bv : Value) (f : EF) (k : Value) : List Value := [cv, bv, .int .i64 f.k, .int .i64 f.w, .int .i64 f.o, .int .u64 (f.v : Nat), .int .i64 f.c, .int .i64 f.l, k]
theorem prC_cells {w : World} {g : Nat} {cv bv k : Value} {f : EF} (h : Arr w g 33 (PrC cv bv f k)) : w.cell? ⟨g, 0, none⟩ = some cv ∧ w.cell? ⟨g, 1, none⟩ = some bv ∧ w.cell? ⟨g, 2, none⟩ = some (.int .i64 f.k) ∧ w.cell? ⟨g, 3, none⟩ = some (.int .i64 f.w) ∧ w.cell? ⟨g, 4, none⟩ = some (.int .i64 f.o) ∧ w.cell? ⟨g, 5, none⟩ = some (.int .u64 (f.v : Nat)) ∧ w.cell? ⟨g, 6, none⟩ = some (.int .i64 f.c) ∧ w.cell? ⟨g, 7, none⟩ = some (.int .i64 f.l) ∧ w.cell? ⟨g, 8, none⟩ = some k :=
  ⟨h.cell 0, h.cell 1, h.cell 2, h.cell 3, h.cell 4, h.cell 5, h.cell 6, h.cell 7, h.cell 8⟩
def EfC (f : EF) (k : Value) : List Value := [.int .i64 f.k, .int .i64 f.w, .int .i64 f.o, .int .u64 (f.v : Nat), .int .i64 f.c, .int .i64 f.l, k]
theorem efC_cells {w : World} {g : Nat} {k : Value} {f : EF} (h : Arr w g 31 (EfC f k)) : w.cell? ⟨g, 0, none⟩ = some (.int .i64 f.k) ∧ w.cell? ⟨g, 1, none⟩ = some (.int .i64 f.w) ∧ w.cell? ⟨g, 2, none⟩ = some (.int .i64 f.o) ∧ w.cell? ⟨g, 3, none⟩ = some (.int .u64 (f.v : Nat)) ∧ w.cell? ⟨g, 4, none⟩ = some (.int .i64 f.c) ∧ w.cell? ⟨g, 5, none⟩ = some (.int .i64 f.l) ∧ w.cell? ⟨g, 6, none⟩ = some k :=
  ⟨h.cell 0, h.cell 1, h.cell 2, h.cell 3, h.cell 4, h.cell 5, h.cell 6⟩
set_option maxRecDepth 4000 in
set_option maxHeartbeats 4000000 in
theorem block_c {P : Nat → Prop} {w : World} {cv bv kv : Value} {cs : List Cel} (hc : CsW P w cv cs) (hb : isSl bv) (f : EF) (hk : isSl kv) (first width n : Int) (hn : n = 2 ∨ n = 3) (h1 : I64 first) (hcl : cs.length ≤ 1000000) : Calls Try.prog 86 #[prA cv bv f kv, .int .i64 first, .int .i64 width, .int .i64 n] w fun e w' => e = .returned (.int .i64 ((blockF cs first width n : Nat) : Int)) ∧ Keep w w' := by
  have HB := hb
  have HKV := hk
  obtain ⟨ba, bn, bc, rfl⟩ := hb
  obtain ⟨ka, kn, kc, rfl⟩ := hk
  have HC := Hid.mk hc
  obtain ⟨ca, cc, hcv, c1, c2⟩ := hc.form
  subst hcv
  unfold maxLen at c2
  obtain ⟨f1, f2⟩ := h1
  have CC : Hid (∀ W, Keep w W → ∀ (first width : Int), I64 first → Calls Try.prog 85 #[prA (.slice ca cs.length cc) (.slice ba bn bc) f (.slice ka kn kc), .int .i64 first, .int .i64 1, .int .i64 width, .bool true] W fun e w' => e = .returned (.int .i64 ((cellsF cs first 1 width true : Nat) : Int)) ∧ Keep W w') := Hid.mk (fun W kk fi wi h => cells_c (hc.step (KP.of kk)) HB f HKV fi 1 wi true h ⟨by decide, by decide⟩ hcl)
  simp only [prA] at *
  obtain ⟨W, hW⟩ : ∃ W, W = w.alloc (.cells #[.slice ca cs.length cc, .slice ba bn bc, .int .i64 f.k, .int .i64 f.w, .int .i64 f.o, .int .u64 (f.v : Nat), .int .i64 f.c, .int .i64 f.l, .slice ka kn kc] 33) := ⟨_, rfl⟩
  have kW : Keep w W := by rw [hW]; exact (Keep.refl w).alloc _
  have aW : Arr W w.heap.size 33 (PrC (.slice ca cs.length cc) (.slice ba bn bc) f (.slice ka kn kc)) := by rw [hW]; exact Arr.new w 33 _
  have HAW := Hid.mk aW
  have HKW := Hid.mk kW
  obtain ⟨d0, d1, d2, d3, d4, d5, d6, d7, d8⟩ := prC_cells aW
  have HN : Hid (blockF cs first width n = if first < 0 ∨ (cs.length : Int) - n < first then 1 else if cellsF cs first 1 1 true ≠ 0 then cellsF cs first 1 1 true else if cellsF cs (first + 1) 1 width true ≠ 0 then cellsF cs (first + 1) 1 width true else if n = 3 then cellsF cs (first + 2) 1 1 true else 0) := Hid.mk rfl
  generalize blockF cs first width n = res at *
  have hcli : (cs.length : Int) ≤ 1000000 := by omega
  clear hc kW aW hcl HB HKV
  by_cases hbad : first < 0 ∨ (cs.length : Int) - n < first
  · rw [if_pos hbad] at HN
    have HBAD := Hid.mk hbad
    have hn2 : (2 : Int) ≤ n := by omega
    have hn3 : n ≤ 3 := by omega
    clear hbad hn
    go_enter Try.func86, Try.ntmps86
    go_upto_region 1 with fail
    rw [← hW]
    generalize w.heap.size = gP at *
    clear hW
    by_cases h0 : first < 0
    · go_wp2_with fail
      go_ret
      exact ⟨by rw [HN.out]; rfl, HKW.out⟩
    · have h5 : (cs.length : Int) - n < first := by have := HBAD.out; omega
      have h6 : 0 ≤ first := by omega
      go_wp2_with fail
      go_ret
      exact ⟨by rw [HN.out]; rfl, HKW.out⟩
  · rw [if_neg hbad] at HN
    have g1 : 0 ≤ first := by omega
    have g2 : first ≤ (cs.length : Int) - n := by omega
    have C1 := CC.out W HKW.out first 1 ⟨f1, f2⟩
    have g3 : first ≤ 1000000 := by omega
    have hn2 : (2 : Int) ≤ n := by omega
    have hn3 : n ≤ 3 := by omega
    have C2 := fun V (k : Keep W V) => CC.out V (HKW.out.trans k) (first + 1) width ⟨by omega, by omega⟩
    have C3 := fun V (k : Keep W V) => CC.out V (HKW.out.trans k) (first + 2) 1 ⟨by omega, by omega⟩
    have HC2 := Hid.mk C2
    have HC3 := Hid.mk C3
    generalize cellsF cs first 1 1 true = r1 at *
    generalize cellsF cs (first + 1) 1 width true = r2 at *
    generalize cellsF cs (first + 2) 1 1 true = r3 at *
    clear hbad C2 C3 CC
    have HNN := Hid.mk hn
    clear hn
    go_enter Try.func86, Try.ntmps86
    go_upto_region 1 with fail
    rw [← hW]
    generalize w.heap.size = gP at *
    clear hW
    go_wp2_with fail
    refine C1.mono ?_
    rintro e w1 ⟨rfl, k1⟩
    obtain ⟨d0, d1, d2, d3, d4, d5, d6, d7, d8⟩ := prC_cells (HAW.out.keep k1)
    by_cases z1 : r1 = 0
    · subst z1
      rw [if_neg (by simp)] at HN
      have C2 := HC2.out w1 k1
      have HK1 := Hid.mk k1
      clear C1 k1
      go_wp2_with fail
      refine C2.mono ?_
      rintro e w2 ⟨rfl, k2⟩
      obtain ⟨d0, d1, d2, d3, d4, d5, d6, d7, d8⟩ := prC_cells (HAW.out.keep (HK1.out.trans k2))
      by_cases z2 : r2 = 0
      · subst z2
        rw [if_neg (by simp)] at HN
        have C3 := HC3.out w2 (HK1.out.trans k2)
        have HK2 := Hid.mk k2
        clear C2 k2
        rcases HNN.out with rfl | rfl
        · rw [if_neg (by decide)] at HN
          go_wp2_with fail
          go_ret
          exact ⟨by rw [HN.out]; rfl, HKW.out.trans (HK1.out.trans HK2.out)⟩
        · rw [if_pos rfl] at HN
          go_wp2_with fail
          refine C3.mono ?_
          rintro e w3 ⟨rfl, k3⟩
          have HK3 := Hid.mk k3
          clear C3 k3
          go_wp2_with fail
          go_ret
          exact ⟨by rw [HN.out]; rfl, HKW.out.trans (HK1.out.trans (HK2.out.trans HK3.out))⟩
      · rw [if_pos z2] at HN
        have z3 : ((r2 : Int) == 0) = false := by simp; omega
        have HK2 := Hid.mk k2
        clear C2 k2
        go_wp2_with fail
        go_ret
        exact ⟨by rw [HN.out]; rfl, HKW.out.trans (HK1.out.trans HK2.out)⟩
    · rw [if_pos z1] at HN
      have z3 : ((r1 : Int) == 0) = false := by simp; omega
      have HK1 := Hid.mk k1
      clear C1 k1
      go_wp2_with fail
      go_ret
      exact ⟨by rw [HN.out]; rfl, HKW.out.trans HK1.out⟩
end Go.Proofs.Qxb6500772a
