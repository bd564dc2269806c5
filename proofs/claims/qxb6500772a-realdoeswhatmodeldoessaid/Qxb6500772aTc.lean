/- corem: Iterations, cells, block. -/
import Derived.Test.Qxb6500772aTb
namespace Go.Proofs.Qxb6500772a
open Go.RowKit Go.Qm
set_option linter.unusedVariables false
set_option linter.unusedSimpArgs false
attribute [local go_sem ↓] Go.wp_at_zero Go.wp_at_succ
def sfA (f : SF) (e t l : Value) : Value := .agg #[.int .i64 f.k, .int .i64 f.c, .int .i64 f.l, .int .i64 f.a, .int .i64 f.b, e, t, l]
def efA (f : EF) (k : Value) : Value := .agg #[.int .i64 f.k, .int .i64 f.w, .int .i64 f.o, .int .u64 (f.v : Nat), .int .i64 f.c, .int .i64 f.l, k]
/-- A program as a value: its cells, its body, its bad-state predicate. -/
def prA (cv bv : Value) (f : EF) (k : Value) : Value := .agg #[cv, bv, .int .i64 f.k, .int .i64 f.w, .int .i64 f.o, .int .u64 (f.v : Nat), .int .i64 f.c, .int .i64 f.l, k]
def isSl (v : Value) : Prop := ∃ a n c, v = .slice a n c
theorem Rows.sl {P : Nat → Prop} {w : World} {v : Value} {sz : Nat} {rows : List (List Value)} (h : Rows P w v sz rows) : isSl v := by
  obtain ⟨a, c, e, -, -⟩ := h.form
  exact ⟨a, _, c, e⟩
set_option maxRecDepth 4000 in
set_option maxHeartbeats 4000000 in
theorem iter_c (f : SF) (hf : SFr f) {ev tv lv : Value} (h1 : isSl ev) (h2 : isSl tv) (h3 : isSl lv) (w : World) : Calls Try.prog 38 #[sfA f ev tv lv] w fun e w' => e = .returned (.int .i64 ((itN f.a f.b : Nat) : Int)) ∧ Keep w w' := by
  obtain ⟨a1, n1, c1, rfl⟩ := h1
  obtain ⟨a2, n2, c2, rfl⟩ := h2
  obtain ⟨a3, n3, c3, rfl⟩ := h3
  obtain ⟨fk, fc, fl, fa, fb⟩ := f
  obtain ⟨h1, h2, h3, ⟨h4, h5⟩, ⟨h6, h7⟩⟩ := hf
  simp only [sfA] at *
  have HN : Hid (itN fa fb = if fb < fa then 0 else if fb - fa > 4096 then 4097 else (fb - fa).toNat + 1) := Hid.mk rfl
  have HKW := (Keep.refl w).alloc (.cells #[.int .i64 fk, .int .i64 fc, .int .i64 fl, .int .i64 fa, .int .i64 fb, .slice a1 n1 c1, .slice a2 n2 c2, .slice a3 n3 c3] 109)
  have HK := Hid.mk HKW
  generalize itN fa fb = res at *
  clear HKW h1 h2 h3
  by_cases hlt : fb < fa
  · rw [if_pos hlt] at HN
    go_enter Try.func38, Try.ntmps38
    go_wp2_with fail
    go_ret
    exact ⟨by rw [HN.out]; rfl, HK.out⟩
  · rw [if_neg hlt] at HN
    have E1 : Hid (IntKind.u64.wrap (IntKind.u64.wrap fb - IntKind.u64.wrap fa) = fb - fa) := Hid.mk (by simp only [IntKind.wrap_u64]; omega)
    by_cases hgt : fb - fa > 4096
    · rw [if_pos hgt] at HN
      go_enter Try.func38, Try.ntmps38
      go_wp2_with fail
      all_goals go_ret
      all_goals (rename_i hd; first | exact ⟨by rw [HN.out]; rfl, HK.out⟩ | (exfalso; rw [E1.out] at hd; omega))
    · rw [if_neg hgt] at HN
      have e2 : (((fb - fa).toNat + 1 : Nat) : Int) = fb - fa + 1 := by omega
      have E3 : Hid (fb - fa ≤ 4096) := Hid.mk (by omega)
      go_enter Try.func38, Try.ntmps38
      go_wp2_with fail
      all_goals go_ret
      all_goals (rename_i hd; first | (exfalso; rw [E1.out] at hd; omega) | skip)
      all_goals
        refine ⟨?_, HK.out⟩
        rw [HN.out, e2]
        apply ret_int
        simp only [E1.out]
        have q1 := E3.out
        have q2 : wrap64 (fb - fa) = fb - fa := w64 _ (by omega)
        have q3 : wrap64 (fb - fa + 1) = fb - fa + 1 := w64 _ (by omega)
        simp only [q2, q3]
def cellsG (width : Int) (wr : Bool) : List Cel → Nat
  | [] => 0
  | c :: r => if c.w ≠ width then 2 else if (wr && c.inp) = true then 3 else cellsG width wr r
def cellsF (cs : List Cel) (first n width : Int) (wr : Bool) : Nat :=
  if first < 0 ∨ n < 1 ∨ (cs.length : Int) < n ∨ (cs.length : Int) - n < first then 1 else cellsG width wr ((cs.drop first.toNat).take n.toNat)
/-- The cells of a program, in memory. -/
def CsW (P : Nat → Prop) (w : World) (v : Value) (cs : List Cel) : Prop := Rows P w v 5 (cs.map celC)
theorem CsW.step {P : Nat → Prop} {w w' : World} {v : Value} {cs : List Cel} (h : CsW P w v cs) (k : KP P w w') : CsW P w' v cs := Rows.step h k
theorem CsW.form {P : Nat → Prop} {w : World} {v : Value} {cs : List Cel} (h : CsW P w v cs) : ∃ a c, v = .slice a cs.length c ∧ cs.length ≤ c ∧ c ≤ maxLen := by
  have := Rows.form h
  rwa [List.length_map] at this
theorem CsW.cell {P : Nat → Prop} {w : World} {a : Option Addr} {m c : Nat} {cs : List Cel} (h : CsW P w (.slice a m c) cs) {i : Nat} (hi : i < cs.length) : ∃ b o, a = some ⟨b, o, none⟩ ∧ ∀ j < 5, w.cell? ⟨b, o + i * 5 + j, none⟩ = (celC cs[i])[j]? := by
  obtain ⟨b, o, ha, hp, hb, hc⟩ := Rows.cell h (i := i) (by simpa using hi)
  exact ⟨b, o, ha, fun j hj => by rw [hc j hj]; simp⟩
set_option maxRecDepth 4000 in
set_option maxHeartbeats 4000000 in
theorem cells_c {P : Nat → Prop} {w : World} {cv bv kv : Value} {cs : List Cel} (hc : CsW P w cv cs) (hb : isSl bv) (f : EF) (hk : isSl kv) (first n width : Int) (wt : Bool) (h1 : I64 first) (h2 : I64 n) (hcl : cs.length ≤ 1000000) : Calls Try.prog 85 #[prA cv bv f kv, .int .i64 first, .int .i64 n, .int .i64 width, .bool wt] w fun e w' => e = .returned (.int .i64 ((cellsF cs first n width wt : Nat) : Int)) ∧ Keep w w' := by
  obtain ⟨ba, bn, bc, rfl⟩ := hb
  obtain ⟨ka, kn, kc, rfl⟩ := hk
  have HC := Hid.mk hc
  obtain ⟨ca, cc, hcv, c1, c2⟩ := hc.form
  subst hcv
  unfold maxLen at c2
  obtain ⟨fk, fw, fo, fv, fc, fl⟩ := f
  obtain ⟨f1, f2⟩ := h1
  obtain ⟨n1, n2⟩ := h2
  simp only [prA]
  obtain ⟨W, hW⟩ : ∃ W, W = w.alloc (.cells #[.slice ca cs.length cc, .slice ba bn bc, .int .i64 fk, .int .i64 fw, .int .i64 fo, .int .u64 (fv : Nat), .int .i64 fc, .int .i64 fl, .slice ka kn kc] 33) := ⟨_, rfl⟩
  have kW : Keep w W := by rw [hW]; exact (Keep.refl w).alloc _
  have aW : Arr W w.heap.size 33 [.slice ca cs.length cc, .slice ba bn bc, .int .i64 fk, .int .i64 fw, .int .i64 fo, .int .u64 (fv : Nat), .int .i64 fc, .int .i64 fl, .slice ka kn kc] := by rw [hW]; exact Arr.new w 33 _
  have d0 := aW.cell 0
  simp only [List.getElem?_cons_zero] at d0
  have HCW := Hid.mk (hc.step (KP.of kW))
  have HKW := Hid.mk kW
  have HN : Hid (cellsF cs first n width wt = if first < 0 ∨ n < 1 ∨ (cs.length : Int) < n ∨ (cs.length : Int) - n < first then 1 else cellsG width wt ((cs.drop first.toNat).take n.toNat)) := Hid.mk rfl
  generalize cellsF cs first n width wt = res at *
  have hcli : (cs.length : Int) ≤ 1000000 := by omega
  clear hc kW aW hcl
  go_enter Try.func85, Try.ntmps85
  go_upto_region 1 with fail
  rw [← hW]
  generalize w.heap.size = gP at *
  clear hW
  by_cases hbad : first < 0 ∨ n < 1 ∨ (cs.length : Int) < n ∨ (cs.length : Int) - n < first
  · rw [if_pos hbad] at HN
    have HBAD := Hid.mk hbad
    clear hbad
    go_wp2_with fail
    all_goals first | (exfalso; have := HBAD.out; omega) | skip
    all_goals go_ret
    all_goals exact ⟨by rw [HN.out]; rfl, HKW.out⟩
  · rw [if_neg hbad] at HN
    obtain ⟨F, rfl⟩ : ∃ F : Nat, first = F := ⟨first.toNat, by omega⟩
    obtain ⟨M, rfl⟩ : ∃ M : Nat, n = M := ⟨n.toNat, by omega⟩
    rw [Int.toNat_natCast, Int.toNat_natCast] at HN
    have b1 : (1 : Int) ≤ M := by omega
    have b2 : (M : Int) ≤ cs.length := by omega
    have b3 : (F : Int) ≤ cs.length - M := by omega
    have b4 : (0 : Int) ≤ F := by omega
    have b5 : (F : Int) + M ≤ cs.length := by omega
    have hsz : ((cs.drop F).take M).length = M := by simp; omega
    have b6 : Hid (∀ k (hk : k < M), F + k < cs.length) := Hid.mk (fun k hk => by omega)
    have HSZ := Hid.mk hsz
    have hpos : 0 < cs.length := by omega
    obtain ⟨b, o, hca, -⟩ := HCW.out.cell hpos
    subst hca
    clear hbad hsz hpos
    have HMI : Hid ((M : Int) ≤ 1000000) := Hid.mk (by omega)
    go_wp2_with fail
    rw [show F + M - F = M by omega]
    go_loopg [12, 43] M (fun gk v12 v43 wr => ∃ (k : Nat), k + gk = M ∧ v43 = .int .i64 k ∧ Keep W wr ∧ cellsG width wt ((cs.drop F).take M) = cellsG width wt (((cs.drop F).take M).drop k))
    case atStart => exact ⟨0, by omega, rfl, Keep.refl W, rfl⟩
    case round =>
      obtain ⟨k, hk, rfl, kp, hG⟩ := hrel
      have HK := Hid.mk hk
      have HKP := Hid.mk kp
      have HG := Hid.mk hG
      by_cases hlt : k < M
      · have j1 : (k : Int) < M := by omega
        have j2 : (0 : Int) ≤ k := by omega
        have hfk := b6.out k hlt
        obtain ⟨b', o', hca, hcl⟩ := (HCW.out.step (KP.of kp)).cell hfk
        obtain ⟨rfl, rfl⟩ : b = b' ∧ o = o' := by simpa using hca
        have ho : ∀ j, o + (F + k) * 5 + j = o + F * 5 + k * 5 + j := fun j => by rw [Nat.add_mul]; omega
        have c0 := hcl 0 (by decide)
        have c1 := hcl 1 (by decide)
        have c2 := hcl 2 (by decide)
        have c3 := hcl 3 (by decide)
        have c4 := hcl 4 (by decide)
        rw [ho] at c0 c1 c2 c3 c4
        have hsub : ((cs.drop F).take M).drop k = cs[F + k] :: ((cs.drop F).take M).drop (k + 1) := by
          rw [List.drop_eq_getElem_cons (by rw [HSZ.out]; exact hlt)]
          congr 1
          simp
        have HSUB := Hid.mk hsub
        generalize cs[F + k] = ce at *
        obtain ⟨cw, ci, cini, clo, chi⟩ := ce
        simp only [celC, List.getElem?_cons_zero, List.getElem?_cons_succ, Nat.add_zero] at c0 c1 c2 c3 c4
        clear hcl hca ho hsub hk kp hG hfk
        go_upto_region 6 with fail
        obtain ⟨V, hV⟩ : ∃ V, V = wr.alloc (.cells #[.int .i64 cw, .bool ci, .int .u64 (cini : Nat), .int .i64 clo, .int .i64 chi] 70) := ⟨_, rfl⟩
        rw [← hV]
        have kV : Keep wr V := by rw [hV]; exact (Keep.refl wr).alloc _
        have aV : Arr V wr.heap.size 70 [.int .i64 cw, .bool ci, .int .u64 (cini : Nat), .int .i64 clo, .int .i64 chi] := by rw [hV]; exact Arr.new wr 70 _
        have e0 := aV.cell 0
        have e1 := aV.cell 1
        simp only [List.getElem?_cons_zero, List.getElem?_cons_succ] at e0 e1
        have HKV := Hid.mk (HKP.out.trans kV)
        generalize wr.heap.size = gQ at *
        clear hV kV aV c0 c1 c2 c3 c4
        have HGS : Hid (cellsG width wt (⟨cw, ci, cini, clo, chi⟩ :: ((cs.drop F).take M).drop (k + 1)) = if cw ≠ width then 2 else if (wt && ci) = true then 3 else cellsG width wt (((cs.drop F).take M).drop (k + 1))) := Hid.mk rfl
        by_cases hw : cw = width
        · have hw2 : (cw == width) = true := by simpa using hw
          have hw3 : (cw != width) = false := by simpa using hw
          rw [if_neg (fun a => a hw)] at HGS
          by_cases hin : (wt && ci) = true
          · rw [if_pos hin] at HGS
            obtain ⟨rfl, rfl⟩ : wt = true ∧ ci = true := by simpa using hin
            clear hin hw
            go_wp2_with fail
            go_ret
            exact ⟨by rw [HN.out, HG.out, HSUB.out, HGS.out]; rfl, HKW.out.trans HKV.out⟩
          · rw [if_neg hin] at HGS
            have hin2 : wt = false ∨ (wt = true ∧ ci = false) := by cases wt <;> cases ci <;> simp_all
            clear hin hw
            rcases hin2 with rfl | ⟨rfl, rfl⟩
            · go_wp2_with fail
              go_roundg (gk - 1)
              case measure => have := HK.out; omega
              case rel => exact ⟨k + 1, by have := HK.out; omega, by go_num, HKV.out, by rw [HG.out, HSUB.out, HGS.out]⟩
            · go_wp2_with fail
              go_roundg (gk - 1)
              case measure => have := HK.out; omega
              case rel => exact ⟨k + 1, by have := HK.out; omega, by go_num, HKV.out, by rw [HG.out, HSUB.out, HGS.out]⟩
        · have hw2 : (cw == width) = false := by simpa using hw
          have hw3 : (cw != width) = true := by simpa using hw
          rw [if_pos (show cw ≠ width from hw)] at HGS
          clear hw
          go_wp2_with fail
          go_ret
          exact ⟨by rw [HN.out, HG.out, HSUB.out, HGS.out]; rfl, HKW.out.trans HKV.out⟩
      · have j1 : ¬ (k : Int) < M := by omega
        obtain rfl : k = M := by omega
        clear hk kp hG
        go_wp2_with fail
        go_ret
        refine ⟨?_, HKW.out.trans HKP.out⟩
        rw [HN.out, HG.out, List.drop_of_length_le (by rw [HSZ.out]; exact Nat.le_refl _)]
        rfl
end Go.Proofs.Qxb6500772a
