/- blast: Value. -/
import Derived.Test.Qxb6500772aIa
import Derived.Test.Qxb6500772aHg
namespace Go.Proofs.Qxb6500772a
open Go.RowKit Go.Qm
set_option linter.unusedVariables false
set_option linter.unusedSimpArgs false
attribute [local go_sem ↓] Go.wp_at_zero Go.wp_at_succ
theorem size_alloc1 {w : World} {o : Obj} : (w.alloc o).heap.size = w.heap.size + 1 := by simp
theorem uset {l : List Nat} {b m : Nat} (hl : l.length = b) (hk : b < m) (x : Nat) : (l.map uv ++ List.replicate (m - b) (Value.int .u64 0)).set b (.int .u64 ((x : Nat) : Int)) = (l ++ [x]).map uv ++ List.replicate (m - (b + 1)) (Value.int .u64 0) := by
  rw [List.set_append_right _ _ (by simp [hl]), List.length_map, hl, Nat.sub_self, show m - b = (m - (b + 1)) + 1 by omega, List.replicate_succ, List.set_cons_zero, List.map_append, List.append_assoc]
  rfl
set_option maxRecDepth 4000 in
set_option maxHeartbeats 8000000 in
theorem value_c {w : World} {G : List Gate} {ws : List Int} {S : SS} {gW fb gF oF : Nat} (h : FV w G ws S gW fb) (hwf : WFG G) (c0 : w.cell? ⟨gF, oF, none⟩ = some (.slice (some ⟨gW, 0, none⟩) ws.length ws.length)) (c1 : w.cell? ⟨gF, oF + 1, none⟩ = some (.int .i64 ((fb : Nat) : Int))) {vv : Value} {inp : Nat → Bool} (hv : Vs w vv (ev G inp)) (hw64 : ∀ a ∈ ws, a ≤ 64) (hl : ws.length ≤ 1000000) :
    Calls Try.prog 14 #[.pointer (some ⟨gF, oF, none⟩), vv] w fun e w' => NewS w.heap.size w' (S inp) e ∧ Keep w w' := by
  obtain ⟨va, vc, hvv, -, -⟩ := hv.form
  subst hvv
  obtain ⟨vs, ls, aw, lv, ll, hwd, hwv⟩ := h.wd
  have hgetl : ∀ i (hi : i < ls.length), ls[i].length ≤ 64 := fun i hi => by
    rw [(hwv i hi).len]
    have h9 : ws.getD i 0 ≤ 64 := by
      rw [List.getD_eq_getElem?_getD, List.getElem?_eq_getElem (by omega)]
      exact hw64 _ (List.getElem_mem _)
    omega
  have hsl := h.sl inp
  obtain ⟨W, hW⟩ : ∃ W, W = w.alloc (.cells #[.slice none 0 0, .bool false] 37) := ⟨_, rfl⟩
  have kW : Keep w W := by rw [hW]; exact (Keep.refl w).alloc _
  have aR : Arr W w.heap.size 37 [.slice none 0 0, .bool false] := by rw [hW]; exact Arr.new w 37 _
  have hmk := run_make1 (P := Try.prog) Try.underlying35 inf28 rfl (ws.length : Int) (ws.length : Int) (by omega) (by omega) (by omega) (by omega)
  simp only [Int.toNat_natCast] at hmk
  have HMK := Hid.mk hmk
  have BT : ∀ Z, Keep w Z → Calls Try.prog 42 #[.slice va (ev G inp).length vc, .int .i64 (fb : Nat)] Z fun e w' => e = .returned (.bool (S inp).fault) ∧ w' = Z := fun Z kz => bit_v (w := Z) (Sl.keep hv kz) (b := fb) (by rw [ev_len]; exact h.bf.1) (r := (S inp).fault) (h.bf.2 inp)
  have WV : ∀ Z, Keep w Z → ∀ i (hi : i < ws.length), ∃ va' vc' vn', vs[i]? = some (.slice va' vn' vc') ∧ Calls Try.prog 35 #[.slice va (ev G inp).length vc, .slice va' vn' vc'] Z fun e w' => e = .returned (.int .u64 ((((S inp).at i : Nat)) : Int)) ∧ w' = Z := fun Z kz i hi => by
    have hw := hwd i (by omega) (by omega)
    obtain ⟨a', c', e', -, -⟩ := hw.form
    refine ⟨a', c', ls[i].length, by rw [List.getElem?_eq_getElem (by omega), e'], ?_⟩
    rw [e'] at hw
    have h9 := word_v (w := Z) (Sl.keep hv kz) (Sl.keep hw kz) (hgetl i (by omega)) (fun b hb => by
      obtain ⟨j, hj, rfl⟩ := List.mem_iff_getElem.1 hb
      have h8 := (hwv i (by omega)).bit j hj
      refine ⟨by rw [ev_len]; exact h8.1, ?_⟩
      have h7 : (ev G inp).getD ls[i][j] 0 = _ := h8.2 inp
      rw [h7]
      exact Bool.toNat_le _)
    rw [(hwv i (by omega)).word inp] at h9
    exact h9
  have HBT := Hid.mk BT
  have HWV := Hid.mk WV
  have HAW := Hid.mk aw
  have HLV := Hid.mk lv
  have HSL := Hid.mk hsl
  have HKW := Hid.mk kW
  have HAR := Hid.mk aR
  have hgWl := aw.lt
  have hgFl : gF < w.heap.size := by
    have h9 := c0
    simp only [World.cell?] at h9
    by_cases h8 : gF < w.heap.size
    · exact h8
    · rw [Array.getElem?_eq_none (by omega)] at h9; cases h9
  have HGFl := Hid.mk hgFl
  clear hgFl
  obtain ⟨flt, hflt⟩ : ∃ flt, flt = (S inp).fault := ⟨_, rfl⟩
  rw [← hflt] at HBT
  have HFLT := Hid.mk hflt
  clear hflt
  have i1 : (ws.length : Int) ≤ 1000000 := by omega
  have HFK : Hid (∀ Z, Keep w Z → Z.cell? ⟨gF, oF, none⟩ = some (.slice (some ⟨gW, 0, none⟩) ws.length ws.length) ∧ Z.cell? ⟨gF, oF + 1, none⟩ = some (.int .i64 (fb : Nat))) := Hid.mk (fun Z k => ⟨k.cell c0, k.cell c1⟩)
  clear h hv hwd hwv hgetl aw lv ll BT WV hsl kW aR c0 c1 hw64
  go_enter Try.func14, Try.ntmps14
  go_upto_region 1 with fail
  rw [← hW]
  generalize hgR : w.heap.size = gR at *
  have HGR := Hid.mk hgR
  clear hgR hW
  have BT0 := HBT.out W.drew (HKW.out.drew)
  go_region_held3 (fun w' => w'.cell? ⟨gF, oF, none⟩ = some (.slice (some ⟨gW, 0, none⟩) ws.length ws.length) ∧ w'.cell? ⟨gF, oF + 1, none⟩ = some (.int .i64 (fb : Nat)))
    (with_reducible first | exact HFK.out _ HKW.out.drew | exact HFK.out _ (HKW.out.drew.alloc _) | exact HFK.out _ ((HKW.out.drew.alloc _).alloc _) | exact HFK.out _ (HKW.out.alloc _).drew | exact HFK.out _ ((HKW.out.alloc _).alloc _).drew)
    (first | (go_at_call 42; refine (HBT.out _ (by first | exact HKW.out.drew | exact HKW.out.drew.alloc _ | exact (HKW.out.drew.alloc _).alloc _)).mono ?_; rintro e y ⟨rfl, hy⟩; subst hy))
  all_goals
    rename_i hHd
    clear hHd BT0
    first
    | (obtain ⟨V, hV⟩ : ∃ V, V = ((W.alloc (.cells (rep ws.length (.int .u64 0)) 28)).alloc (.cells #[.slice (some ⟨W.heap.size, 0, none⟩) ws.length ws.length, .bool flt] 37)).drew := ⟨_, rfl⟩
       rw [← hV]
       have kV : Keep W V := by rw [hV]; exact (((Keep.refl W).alloc _).alloc _).drew
       have aN : Arr V (W.heap.size) 28 ([].map uv ++ List.replicate (ws.length - 0) (.int .u64 0)) := by
         rw [hV, rep_eq]
         exact ((Arr.new W 28 _).keep ((Keep.refl _).alloc _)).drew
       have a5 : Arr V (W.heap.size + 1) 37 [.slice (some ⟨W.heap.size, 0, none⟩) ws.length ws.length, .bool flt] := by
         rw [hV]
         rw [← size_alloc1]; exact (Arr.new _ 37 _).drew
       have szV : W.heap.size + 2 ≤ V.heap.size := by rw [hV]; simp
       obtain ⟨gN, hgN⟩ : ∃ gN, gN = W.heap.size := ⟨_, rfl⟩
       obtain ⟨g5, hg5⟩ : ∃ g5, g5 = W.heap.size + 1 := ⟨_, rfl⟩
       rw [← hg5] at a5 ⊢
       rw [← hgN] at aN a5 ⊢
       have nn : W.heap.size ≤ gN ∧ W.heap.size ≤ g5 ∧ gN ≠ g5 := by omega
       clear hgN hg5 hV)
    | (obtain ⟨V, hV⟩ : ∃ V, V = ((W.alloc (.cells #[.slice (some ⟨W.heap.size + 1, 0, none⟩) ws.length ws.length, .bool flt] 37)).alloc (.cells (rep ws.length (.int .u64 0)) 28)).drew := ⟨_, rfl⟩
       rw [← hV]
       have kV : Keep W V := by rw [hV]; exact (((Keep.refl W).alloc _).alloc _).drew
       have aN : Arr V (W.heap.size + 1) 28 ([].map uv ++ List.replicate (ws.length - 0) (.int .u64 0)) := by
         rw [hV, rep_eq]
         have h9 := Arr.new (W.alloc (.cells #[.slice (some ⟨W.heap.size + 1, 0, none⟩) ws.length ws.length, .bool flt] 37)) 28 (List.replicate ws.length (.int .u64 0)); rw [size_alloc1] at h9; exact h9.drew
       have a5 : Arr V (W.heap.size) 37 [.slice (some ⟨W.heap.size + 1, 0, none⟩) ws.length ws.length, .bool flt] := by
         rw [hV]
         exact ((Arr.new W 37 _).keep ((Keep.refl _).alloc _)).drew
       have szV : W.heap.size + 2 ≤ V.heap.size := by rw [hV]; simp
       obtain ⟨gN, hgN⟩ : ∃ gN, gN = W.heap.size + 1 := ⟨_, rfl⟩
       obtain ⟨g5, hg5⟩ : ∃ g5, g5 = W.heap.size := ⟨_, rfl⟩
       rw [← hgN] at aN a5 ⊢
       rw [← hg5] at a5 ⊢
       have nn : W.heap.size ≤ gN ∧ W.heap.size ≤ g5 ∧ gN ≠ g5 := by omega
       clear hgN hg5 hV)
    have HAN := Hid.mk aN
    have HA5 := Hid.mk a5
    have HKV := Hid.mk (HKW.out.trans kV)
    have HARV := Hid.mk (HAR.out.keep kV)
    have HNN : Hid (gR < gN ∧ gR < g5 ∧ gN ≠ g5 ∧ gF ≠ gN ∧ gF ≠ g5) := Hid.mk (by have := HAR.out.lt; exact ⟨by omega, by omega, by omega, by have := HGFl.out; have := HKW.out.size; have := HGR.out; omega, by have := HGFl.out; have := HKW.out.size; have := HGR.out; omega⟩)
    have f0 := (HFK.out V HKV.out).1
    clear aN a5 kV nn szV
    go_wp2_with fail
    clear f0
    go_loopg [26] ws.length (fun gk v26 wr => ∃ (k : Nat), k + gk = ws.length ∧ v26 = .int .i64 k ∧ Keep w wr ∧ Arr wr gN 28 (((S inp).cells.take k).map uv ++ List.replicate (ws.length - k) (.int .u64 0)) ∧ Arr wr g5 37 [.slice (some ⟨gN, 0, none⟩) ws.length ws.length, .bool flt] ∧ Arr wr gR 37 [.slice none 0 0, .bool false])
    case atStart => exact ⟨0, by omega, rfl, HKV.out, HAN.out, HA5.out, HARV.out⟩
    case round =>
      obtain ⟨k, hk, rfl, kp, an, a5, ar⟩ := hrel
      have HKK := Hid.mk hk
      have HKP := Hid.mk kp
      have HAN2 := Hid.mk an
      have HA52 := Hid.mk a5
      have HAR2 := Hid.mk ar
      clear hk
      by_cases hlt : k < ws.length
      · have j1 : (k : Int) < ws.length := by omega
        have j2 : (0 : Int) ≤ k := by omega
        obtain ⟨xa, xc, xn, hx, CX⟩ := HWV.out wr.drew kp.drew k hlt
        have HCX := Hid.mk CX
        have y0 : wr.cell? ⟨gW, k, none⟩ = some (.slice xa xn xc) := ((HAW.out.keep kp).cell k).trans hx
        have HTK : Hid ((S inp).cells.take (k + 1) = (S inp).cells.take k ++ [(S inp).at k]) := Hid.mk (by
          have h9 : k < (S inp).cells.length := by rw [HSL.out]; exact hlt
          rw [List.take_succ_eq_append_getElem h9]
          simp [PS.at, List.getD_eq_getElem?_getD, h9])
        have HTL : Hid (((S inp).cells.take k).length = k) := Hid.mk (by rw [List.length_take, HSL.out]; omega)
        have z0 : wr.drew.cell? ⟨g5, 0, none⟩ = some (.slice (some ⟨gN, 0, none⟩) ws.length ws.length) := a5.cell 0
        have z0' : wr.cell? ⟨g5, 0, none⟩ = some (.slice (some ⟨gN, 0, none⟩) ws.length ws.length) := a5.cell 0
        obtain ⟨u1, c1⟩ : ∃ u, wr.cell? ⟨gN, k, none⟩ = some u := ⟨_, (an.cell k).trans (List.getElem?_eq_getElem (by have := HTL.out; simp only [List.length_append, List.length_map, List.length_replicate]; omega))⟩
        have c1' : wr.drew.cell? ⟨gN, k, none⟩ = some u1 := c1
        have fz : wr.drew.frozen? ⟨gN, k, none⟩ = false := an.frozen k
        generalize (S inp).at k = sk at *
        have z5 : (wr.setCell ⟨gN, k, none⟩ (.int .u64 ((sk : Nat) : Int))).drew.cell? ⟨g5, 0, none⟩ = some (.slice (some ⟨gN, 0, none⟩) ws.length ws.length) := (((Fr.setCell (P := fun q => q = gN) (p := ⟨gN, k, none⟩) (Fr.refl _ wr) (Or.inl rfl) _).arr (fun e => HNN.out.2.2.1 e.symm) a5).drew).cell 0
        clear kp an a5 ar hx CX
        go_wp2_with fail
        go_region_held3 (fun w' => w'.cell? ⟨g5, 0, none⟩ = some (.slice (some ⟨gN, 0, none⟩) ws.length ws.length)) (with_reducible first | exact z0 | exact z5)
          (first | (go_at_call 35; refine HCX.out.mono ?_; rintro e y ⟨rfl, hy⟩; have hy2 := hy.symm; clear hy; subst hy2))
        rename_i hHd
        clear hHd z0 z0' c1 c1' fz z5 y0
        go_wp2_with fail
        go_roundg (gk - 1)
        case measure => have := HKK.out; omega
        case rel =>
          have hge : w.heap.size ≤ gN := by have := HNN.out; have := HGR.out; omega
          have f9 : Fr (fun q => q = gN) wr (wr.setCell ⟨gN, k, none⟩ (.int .u64 ((sk : Nat) : Int))) := Fr.setCell (P := fun q => q = gN) (p := ⟨gN, k, none⟩) (Fr.refl _ wr) (Or.inl rfl) _
          refine ⟨k + 1, by have := HKK.out; omega, by go_num, (HKP.out.setCell (p := ⟨gN, k, none⟩) hge _).drew, ?_, (f9.arr (fun e => HNN.out.2.2.1 e.symm) HA52.out).drew, (f9.arr (fun e => by have := HNN.out; omega) HAR2.out).drew⟩
          rw [HTK.out, ← uset HTL.out hlt]
          exact (HAN2.out.set k _).drew
      · have j1 : ¬ (k : Int) < ws.length := by omega
        obtain rfl : k = ws.length := by have := HKK.out; omega
        have r0 : wr.cell? ⟨g5, 0, none⟩ = some (.slice (some ⟨gN, 0, none⟩) ws.length ws.length) := a5.cell 0
        have r1 : wr.cell? ⟨g5, 1, none⟩ = some (.bool flt) := a5.cell 1
        have r2 : wr.cell? ⟨gR, 0, none⟩ = some (.slice none 0 0) := ar.cell 0
        have r3 : wr.cell? ⟨gR, 1, none⟩ = some (.bool false) := ar.cell 1
        have r4 := ar.frozen 0
        have r5 := ar.frozen 1
        clear an a5 ar kp
        go_wp2_with fail
        have A9 := (HAR2.out.set 0 (.slice (some ⟨gN, 0, none⟩) ws.length ws.length)).set 1 (.bool flt)
        have q0 := A9.cell 0
        have q1 := A9.cell 1
        simp only [List.set_cons_zero, List.set_cons_succ, List.getElem?_cons_zero, List.getElem?_cons_succ] at q0 q1
        have hge : w.heap.size ≤ gR := by have := HGR.out; omega
        refine bodyPost_ret (v := .agg #[.slice (some ⟨gN, 0, none⟩) ws.length ws.length, .bool flt]) (by simp [results, Try.results14, go_sem, q0, q1]) rfl ?_
        refine ⟨⟨_, by rw [HFLT.out], ?_⟩, (HKP.out.setCell (p := ⟨gR, 0, none⟩) hge _).setCell (p := ⟨gR, 1, none⟩) hge _⟩
        have f9 : Fr (fun q => q = gR) wr ((wr.setCell ⟨gR, 0, none⟩ (.slice (some ⟨gN, 0, none⟩) ws.length ws.length)).setCell ⟨gR, 1, none⟩ (.bool flt)) := Fr.setCell (P := fun q => q = gR) (p := ⟨gR, 1, none⟩) (Fr.setCell (P := fun q => q = gR) (p := ⟨gR, 0, none⟩) (Fr.refl _ wr) (Or.inl rfl) _) (Or.inl rfl) _
        have h9 := f9.arr (fun e => by have := HNN.out; omega) HAN2.out
        rw [Nat.sub_self, List.replicate_zero, List.append_nil, ← HSL.out, List.take_length] at h9
        have h8 := Own.of_blk (B := gR) (xs := (S inp).cells.map uv) (sp := []) (g := gN) (cap := ws.length) (by have := HNN.out; omega) (by simpa [Arr] using h9) (by rw [List.length_map, HSL.out]; simp) (by simp only [maxLen]; omega)
        rw [List.length_map, HSL.out] at h8
        rw [HGR.out]
        exact h8
end Go.Proofs.Qxb6500772a
