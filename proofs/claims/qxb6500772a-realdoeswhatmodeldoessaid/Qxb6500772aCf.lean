/- circuitm: NotW, AndW, MuxW. -/
import Derived.Test.Qxb6500772aCe
import Derived.Deep.RegionHeld3
namespace Go.Proofs.Qxb6500772a
open Go.RowKit Go.Qm
set_option linter.unusedVariables false
set_option linter.unusedSimpArgs false
attribute [local go_sem ↓] Go.wp_at_zero Go.wp_at_succ
section
variable {B gc n : Nat} {X : Nat → Prop} {gv : Value} {G : List Gate} {w : World}
set_option maxRecDepth 4000 in
set_option maxHeartbeats 4000000 in
theorem notW_c (h : CC B X w gc gv G n) (hw : WFG G) (hX : ∀ q, X q → q < w.heap.size) {xv : Value} {x : List Nat} {wd : Nat} {f : WF} (hx : WO (fpX gc gv X) w xv x) (vx : Wv G x wd f) (hxl : wd ≤ 64) (hl : G.length ≤ 800000000) :
    Calls Try.prog 94 #[.pointer (some ⟨gc, 0, none⟩), xv] w fun e w' => RetV B X gc gv w G n 64 wd (fun i => 2 ^ wd - 1 - f i) e w' := by
  have L0 := LW.start h hw (fun i => 2 ^ wd - 1 - f i)
  have HL0 := Hid.mk L0
  have HX := Hid.mk hx
  have HV := Hid.mk vx
  have HXX := Hid.mk hX
  have hxn := vx.len
  obtain ⟨xa, xc, hxv, x1, x2⟩ := hx.form
  subst hxv
  unfold maxLen at x2
  have HL := Hid.mk hl
  have HXN := Hid.mk hxn
  have HXL := Hid.mk hxl
  have hxi : (x.length : Int) ≤ 64 := by omega
  clear hx hl h vx hxn hxl L0 hX
  go_enter Try.func94, Try.ntmps94
  go_wp2_with fail
  go_loopg [5, 7, 11] x.length (fun gk v5 v7 v11 wr => ∃ (k : Nat) (g' : Value) (G' : List Gate) (v : Value) (l : List Nat), k + gk = x.length ∧ v11 = .int .i64 k ∧ v5 = v ∧ LW B X w gc gv G n (fun i => 2 ^ wd - 1 - f i) k k wr g' G' v l)
  case atStart => exact ⟨0, gv, G, _, _, by omega, rfl, rfl, HL0.out⟩
  case round =>
    obtain ⟨k, g', G', ov, l, hk, rfl, hov, LL⟩ := hrel
    rw [hov]
    have HOV := Hid.mk hov
    have HK := Hid.mk hk
    have HLL := Hid.mk LL
    clear hov hk
    by_cases hlt : k < x.length
    · have i1 : (k : Int) < x.length := by omega
      have i2 : (0 : Int) ≤ k := by omega
      obtain ⟨b, oo, hxa, hc⟩ := (HX.out.stepX LL.st).cell hlt
      subst hxa
      have NC := not_s LL.cc LL.ex.wf (((HV.out.bit k hlt)).ext LL.ex.pre) (by have := HL.out; have := LL.ex.len; omega)
      generalize x[k] = xk at *
      have hln := LL.ln
      have HLN := Hid.mk hln
      have hw2 : w.heap.size ≤ wr.heap.size := LL.st.1.size
      clear LL hln
      go_wp2_with fail
      refine NC.mono ?_
      rintro e w2 ⟨g2, G2, bb, rfl, c2, s2, e2, b2⟩
      have hw3 : w.heap.size ≤ w2.heap.size := Nat.le_trans hw2 s2.1.size
      have HC2 := Hid.mk c2
      have HS2 := Hid.mk s2
      have HE2 := Hid.mk e2
      have HB2 := Hid.mk b2
      have HO2 := Hid.mk (HLL.out.ow.step s2)
      clear c2 s2 NC hc e2 b2
      go_wp2_with (at_builtin; refine wpList_app (by rfl) _ _ _ (by rfl) Try.underlying95 inf46 rfl w.heap.size (HO2.out.1.alloc _) (Own.lit (B := w.heap.size) [.int .i64 (bb : Nat)] hw3 (by simp [maxLen])).sl (by simp [Value.oneCell']) (by rfl) (by rfl) (by have := HLN.out; simp [maxLen]; omega) (by have := HLN.out; simp; omega) (by simp; omega) ?_; intro v' w' hown' hgr hob)
      go_roundg (gk - 1)
      case measure => have := HK.out; omega
      case rel =>
        refine ⟨k + 1, g2, G2, v', _, by have := HK.out; omega, by go_num, rfl, HLL.out.push HC2.out HS2.out HE2.out (HB2.out.congr fun inp => ?_) ((Keep.refl w2).alloc _) hown' hgr hob⟩
        have h1 := HV.out.lt inp
        have h2 := HXN.out
        rw [show 2 ^ wd - 1 - f inp = 2 ^ wd - (f inp + 1) by omega, Nat.testBit_two_pow_sub_succ h1]
        simp [show k < wd by omega]
    · have i1 : ¬ (k : Int) < x.length := by omega
      have hkx : k = x.length := by have := HK.out; omega
      clear LL
      go_wp2_with fail
      go_ret
      have h0 := HXN.out
      obtain rfl : k = wd := by omega
      exact HLL.out.done (K' := 64) HXX.out HXL.out (fun i => by have := Nat.two_pow_pos k; omega)
set_option maxRecDepth 4000 in
set_option maxHeartbeats 4000000 in
theorem andW_c (h : CC B X w gc gv G n) (hw : WFG G) (hX : ∀ q, X q → q < w.heap.size) {xv yv : Value} {x y : List Nat} {wd : Nat} {f g : WF} (hx : WO (fpX gc gv X) w xv x) (vx : Wv G x wd f) (hy : WO (fpX gc gv X) w yv y) (vy : Wv G y wd g) (hxl : wd ≤ 64) (hl : G.length ≤ 800000000) :
    Calls Try.prog 96 #[.pointer (some ⟨gc, 0, none⟩), xv, yv] w fun e w' => RetV B X gc gv w G n 64 wd (fun i => f i &&& g i) e w' := by
  have L0 := LW.start h hw (fun i => f i &&& g i)
  have HL0 := Hid.mk L0
  have HX := Hid.mk hx
  have HY := Hid.mk hy
  have HV := Hid.mk vx
  have HVY := Hid.mk vy
  have HXX := Hid.mk hX
  have hxn := vx.len
  have hyn : y.length = x.length := by rw [vx.len, vy.len]
  obtain ⟨xa, xc, hxv, x1, x2⟩ := hx.form
  obtain ⟨ya, yc, hyv, y1, y2⟩ := hy.form
  rw [hyn] at hyv y1
  subst hxv hyv
  unfold maxLen at x2 y2
  have HL := Hid.mk hl
  have HXN := Hid.mk hxn
  have HYN := Hid.mk hyn
  have HXL := Hid.mk hxl
  have hxi : (x.length : Int) ≤ 64 := by omega
  clear hx hl h vx hxn hxl L0 hX hy vy hyn
  go_enter Try.func96, Try.ntmps96
  go_wp2_with fail
  go_loopg [7, 8, 12] x.length (fun gk v7 v8 v12 wr => ∃ (k : Nat) (g' : Value) (G' : List Gate) (v : Value) (l : List Nat), k + gk = x.length ∧ v12 = .int .i64 k ∧ v7 = v ∧ LW B X w gc gv G n (fun i => f i &&& g i) k k wr g' G' v l)
  case atStart => exact ⟨0, gv, G, _, _, by omega, rfl, rfl, HL0.out⟩
  case round =>
    obtain ⟨k, g', G', ov, l, hk, rfl, hov, LL⟩ := hrel
    rw [hov]
    have HOV := Hid.mk hov
    have HK := Hid.mk hk
    have HLL := Hid.mk LL
    clear hov hk
    by_cases hlt : k < x.length
    · have i1 : (k : Int) < x.length := by omega
      have i2 : (0 : Int) ≤ k := by omega
      have hlty : k < y.length := by have := HYN.out; omega
      obtain ⟨b, oo, hxa, hc⟩ := (HX.out.stepX LL.st).cell hlt
      subst hxa
      obtain ⟨b', oo', hya, hcy⟩ := (show WO (fpX gc g' X) wr (.slice ya y.length yc) y by rw [HYN.out]; exact HY.out.stepX LL.st).cell hlty
      subst hya
      have NC := fun W (kW : Keep wr W) => and_s (LL.cc.keep kW) LL.ex.wf ((HV.out.bit k hlt).ext LL.ex.pre) ((HVY.out.bit k hlty).ext LL.ex.pre) (by have := HL.out; have := LL.ex.len; omega)
      generalize x[k] = xk at *
      generalize y[k] = yk at *
      have hln := LL.ln
      have HLN := Hid.mk hln
      have HNC := Hid.mk NC
      have hw2 : w.heap.size ≤ wr.heap.size := LL.st.1.size
      have hb0 := (HX.out.nb b rfl).2
      have hb0' := (HY.out.nb b' rfl).2
      have hn0 := ((HX.out.stepX LL.st).nb b rfl)
      have hn0' := ((HY.out.stepX LL.st).nb b' rfl)
      have N0 := Hid.mk hn0
      have N0' := Hid.mk hn0'
      have P0 := Hid.mk hb0
      have P0' := Hid.mk hb0'
      have OB : Hid (∀ q, ov.ownBlock = some q → w.heap.size ≤ q) := Hid.mk (fun q hq => (LL.ow.1.lt q hq).1)
      clear LL hln NC hn0 hn0' hb0 hb0'
      go_wp2_with fail
      go_region_held3 (fun w' => w'.cell? ⟨b, oo + k, none⟩ = some (.int .i64 (xk : Nat)) ∧ w'.cell? ⟨b', oo' + k, none⟩ = some (.int .i64 (yk : Nat))) (first | exact ⟨hc, hcy⟩ | exact ⟨hc2, hcy2⟩ | exact ⟨((Keep.refl w2).alloc _).cell hc2, ((Keep.refl w2).alloc _).cell hcy2⟩ | exact ⟨hc4, hcy4⟩)
        (first | (go_at_call 31; refine (HNC.out _ ((Keep.refl wr).drew)).mono ?_; rintro e w2 ⟨g2, G2, bb, rfl, c2, s2', e2, b2⟩; have s2 := (Stp.keep ((Keep.refl wr).drew)).trans s2'; have HC2 := Hid.mk c2; have HS2 := Hid.mk s2; have HE2 := Hid.mk e2; have HB2 := Hid.mk b2; have HO2 := Hid.mk (HLL.out.ow.step s2); have hw3 : w.heap.size ≤ w2.heap.size := Nat.le_trans hw2 s2.1.size; have hc2 := (s2.1.cellk (fun a => N0.out.1 (Or.inl a)) N0.out.2).trans hc; have hcy2 := (s2.1.cellk (fun a => N0'.out.1 (Or.inl a)) N0'.out.2).trans hcy; clear c2 s2 s2' e2 b2) | (rw [if_pos (by rfl)]; refine wp_appB _ _ rfl (HO2.out.1.alloc _) (Own.lit (B := w.heap.size) [.int .i64 (bb : Nat)] hw3 (by simp [maxLen])).sl (by simp [Value.oneCell']) (by have := HLN.out; simp; omega) (by simp; omega) (by rfl) (by rfl) ?_; intro v' w' hown' hgr hob; have hc4 := ((Fr.grown (P := fun q => ov.ownBlock = some q) hgr (fun q hq => hq)).cellk (fun a => by have := OB.out _ a; have := P0.out; omega) (by have := P0.out; simp; omega)).trans (((Keep.refl w2).alloc _).cell hc2); have hcy4 := ((Fr.grown (P := fun q => ov.ownBlock = some q) hgr (fun q hq => hq)).cellk (fun a => by have := OB.out _ a; have := P0'.out; omega) (by have := P0'.out; simp; omega)).trans (((Keep.refl w2).alloc _).cell hcy2)))
      go_wp2_with fail
      go_roundg (gk - 1)
      case measure => have := HK.out; omega
      case rel =>
        exact ⟨k + 1, g2, G2, v', _, by have := HK.out; omega, by go_num, rfl, HLL.out.push HC2.out HS2.out HE2.out (HB2.out.congr fun inp => by simp [Nat.testBit_and]) ((Keep.refl w2).alloc _) hown' hgr hob⟩
    · have i1 : ¬ (k : Int) < x.length := by omega
      have hkx : k = x.length := by have := HK.out; omega
      clear LL
      go_wp2_with fail
      go_ret
      have h0 := HXN.out
      obtain rfl : k = wd := by omega
      exact HLL.out.done (K' := 64) HXX.out HXL.out (fun i => Nat.lt_of_le_of_lt Nat.and_le_left (HV.out.lt i))
set_option maxRecDepth 4000 in
set_option maxHeartbeats 4000000 in
theorem muxW_c (h : CC B X w gc gv G n) (hw : WFG G) (hX : ∀ q, X q → q < w.heap.size) {s : Nat} {c : BF} (hs : Bt G s c) {xv yv : Value} {x y : List Nat} {wd : Nat} {f g : WF} (hx : WO (fpX gc gv X) w xv x) (vx : Wv G x wd f) (hy : WO (fpX gc gv X) w yv y) (vy : Wv G y wd g) (hxl : wd ≤ 64) (hl : G.length ≤ 700000000) :
    Calls Try.prog 89 #[.pointer (some ⟨gc, 0, none⟩), .int .i64 (s : Nat), xv, yv] w fun e w' => RetV B X gc gv w G n 448 wd (fun i => if c i then f i else g i) e w' := by
  have L0 := LW.start h hw (fun i => if c i then f i else g i)
  have HL0 := Hid.mk L0
  have HX := Hid.mk hx
  have HSB := Hid.mk hs
  have HY := Hid.mk hy
  have HV := Hid.mk vx
  have HVY := Hid.mk vy
  have HXX := Hid.mk hX
  have hxn := vx.len
  have hyn : y.length = x.length := by rw [vx.len, vy.len]
  obtain ⟨xa, xc, hxv, x1, x2⟩ := hx.form
  obtain ⟨ya, yc, hyv, y1, y2⟩ := hy.form
  rw [hyn] at hyv y1
  subst hxv hyv
  unfold maxLen at x2 y2
  have HL := Hid.mk hl
  have HXN := Hid.mk hxn
  have HYN := Hid.mk hyn
  have HXL := Hid.mk hxl
  have hxi : (x.length : Int) ≤ 64 := by omega
  clear hs hx hl h vx hxn hxl L0 hX hy vy hyn
  go_enter Try.func89, Try.ntmps89
  go_wp2_with fail
  go_loopg [9, 10, 14] x.length (fun gk v9 v10 v14 wr => ∃ (k : Nat) (g' : Value) (G' : List Gate) (v : Value) (l : List Nat), k + gk = x.length ∧ v14 = .int .i64 k ∧ v9 = v ∧ LW B X w gc gv G n (fun i => if c i then f i else g i) (7 * k) k wr g' G' v l)
  case atStart => exact ⟨0, gv, G, _, _, by omega, rfl, rfl, HL0.out⟩
  case round =>
    obtain ⟨k, g', G', ov, l, hk, rfl, hov, LL⟩ := hrel
    rw [hov]
    have HOV := Hid.mk hov
    have HK := Hid.mk hk
    have HLL := Hid.mk LL
    clear hov hk
    by_cases hlt : k < x.length
    · have i1 : (k : Int) < x.length := by omega
      have i2 : (0 : Int) ≤ k := by omega
      have hlty : k < y.length := by have := HYN.out; omega
      obtain ⟨b, oo, hxa, hc⟩ := (HX.out.stepX LL.st).cell hlt
      subst hxa
      obtain ⟨b', oo', hya, hcy⟩ := (show WO (fpX gc g' X) wr (.slice ya y.length yc) y by rw [HYN.out]; exact HY.out.stepX LL.st).cell hlty
      subst hya
      have NC := fun W (kW : Keep wr W) => mux_s (LL.cc.keep kW) LL.ex.wf (HSB.out.ext LL.ex.pre) ((HV.out.bit k hlt).ext LL.ex.pre) ((HVY.out.bit k hlty).ext LL.ex.pre) (by have := HL.out; have := LL.ex.len; omega)
      generalize x[k] = xk at *
      generalize y[k] = yk at *
      have hln := LL.ln
      have HLN := Hid.mk hln
      have HNC := Hid.mk NC
      have hw2 : w.heap.size ≤ wr.heap.size := LL.st.1.size
      have hb0 := (HX.out.nb b rfl).2
      have hb0' := (HY.out.nb b' rfl).2
      have hn0 := ((HX.out.stepX LL.st).nb b rfl)
      have hn0' := ((HY.out.stepX LL.st).nb b' rfl)
      have N0 := Hid.mk hn0
      have N0' := Hid.mk hn0'
      have P0 := Hid.mk hb0
      have P0' := Hid.mk hb0'
      have OB : Hid (∀ q, ov.ownBlock = some q → w.heap.size ≤ q) := Hid.mk (fun q hq => (LL.ow.1.lt q hq).1)
      clear LL hln NC hn0 hn0' hb0 hb0'
      go_wp2_with fail
      go_region_held3 (fun w' => w'.cell? ⟨b, oo + k, none⟩ = some (.int .i64 (xk : Nat)) ∧ w'.cell? ⟨b', oo' + k, none⟩ = some (.int .i64 (yk : Nat))) (first | exact ⟨hc, hcy⟩ | exact ⟨hc2, hcy2⟩ | exact ⟨((Keep.refl w2).alloc _).cell hc2, ((Keep.refl w2).alloc _).cell hcy2⟩ | exact ⟨hc4, hcy4⟩)
        (first | (go_at_call 100; refine (HNC.out _ ((Keep.refl wr).drew)).mono ?_; rintro e w2 ⟨g2, G2, bb, rfl, c2, s2', e2, b2⟩; have s2 := (Stp.keep ((Keep.refl wr).drew)).trans s2'; have HC2 := Hid.mk c2; have HS2 := Hid.mk s2; have HE2 := Hid.mk e2; have HB2 := Hid.mk b2; have HO2 := Hid.mk (HLL.out.ow.step s2); have hw3 : w.heap.size ≤ w2.heap.size := Nat.le_trans hw2 s2.1.size; have hc2 := (s2.1.cellk (fun a => N0.out.1 (Or.inl a)) N0.out.2).trans hc; have hcy2 := (s2.1.cellk (fun a => N0'.out.1 (Or.inl a)) N0'.out.2).trans hcy; clear c2 s2 s2' e2 b2) | (rw [if_pos (by rfl)]; refine wp_appB _ _ rfl (HO2.out.1.alloc _) (Own.lit (B := w.heap.size) [.int .i64 (bb : Nat)] hw3 (by simp [maxLen])).sl (by simp [Value.oneCell']) (by have := HLN.out; simp; omega) (by simp; omega) (by rfl) (by rfl) ?_; intro v' w' hown' hgr hob; have hc4 := ((Fr.grown (P := fun q => ov.ownBlock = some q) hgr (fun q hq => hq)).cellk (fun a => by have := OB.out _ a; have := P0.out; omega) (by have := P0.out; simp; omega)).trans (((Keep.refl w2).alloc _).cell hc2); have hcy4 := ((Fr.grown (P := fun q => ov.ownBlock = some q) hgr (fun q hq => hq)).cellk (fun a => by have := OB.out _ a; have := P0'.out; omega) (by have := P0'.out; simp; omega)).trans (((Keep.refl w2).alloc _).cell hcy2)))
      go_wp2_with fail
      go_roundg (gk - 1)
      case measure => have := HK.out; omega
      case rel =>
        exact ⟨k + 1, g2, G2, v', _, by have := HK.out; omega, by go_num, rfl, by rw [show 7 * (k + 1) = 7 * k + 7 by omega]; exact HLL.out.push HC2.out HS2.out HE2.out (HB2.out.congr fun inp => by cases c inp <;> simp) ((Keep.refl w2).alloc _) hown' hgr hob⟩
    · have i1 : ¬ (k : Int) < x.length := by omega
      have hkx : k = x.length := by have := HK.out; omega
      clear LL
      go_wp2_with fail
      go_ret
      have h0 := HXN.out
      obtain rfl : k = wd := by omega
      exact HLL.out.done (K' := 448) HXX.out (by have := HXL.out; omega) (fun i => by by_cases e : c i = true <;> simp only [e, if_true, if_false, Bool.false_eq_true] <;> first | exact HV.out.lt i | exact HVY.out.lt i)
end
end Go.Proofs.Qxb6500772a
