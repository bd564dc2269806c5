/- blast: unary. -/
import Derived.Test.Qxb6500772aDe
namespace Go.Proofs.Qxb6500772a
open Go.RowKit Go.Qm
set_option linter.unusedVariables false
set_option linter.unusedSimpArgs false
attribute [local go_sem ↓] Go.wp_at_zero Go.wp_at_succ
theorem sext_bit {x a wd : Nat} (h1 : 1 ≤ a) (ha : a ≤ wd) (hx : x < 2 ^ a) (i : Nat) : (sgn x a % 2 ^ wd).toNat.testBit i = if i < a then x.testBit i else (decide (i < wd) && x.testBit (a - 1)) := by
  have hc2 : ((2 ^ wd : Nat) : Int) = (2 : Int) ^ wd := by push_cast; rfl
  have hc : ((2 ^ a : Nat) : Int) = (2 : Int) ^ a := by push_cast; rfl
  have hle : 2 ^ a ≤ 2 ^ wd := Nat.pow_le_pow_right (by decide) ha
  unfold sgn
  rw [← hc2, ← hc]
  cases ht : x.testBit (a - 1) with
  | false =>
    simp only [Bool.false_eq_true, if_false, Bool.and_false]
    rw [Int.emod_eq_of_lt (by omega) (by omega), Int.toNat_natCast]
    split
    · rfl
    · exact tb_hi hx (by omega)
  | true =>
    simp only [if_true, Bool.and_true]
    have e : (((x : Int) - (2 ^ a : Nat)) % (2 ^ wd : Nat)).toNat = 2 ^ a * (2 ^ (wd - a) - 1) + x := by
      have e1 : 2 ^ a * (2 ^ (wd - a) - 1) = 2 ^ wd - 2 ^ a := by
        rw [Nat.mul_sub, ← Nat.pow_add, Nat.mul_one, show a + (wd - a) = wd by omega]
      rw [e1]
      have e2 : ((x : Int) - (2 ^ a : Nat)) % (2 ^ wd : Nat) = (x : Int) - (2 ^ a : Nat) + (2 ^ wd : Nat) := by
        rw [← Int.add_emod_right, Int.emod_eq_of_lt (by omega) (by omega)]
      rw [e2]; omega
    rw [e, Nat.testBit_two_pow_mul_add _ hx]
    split
    · rfl
    · rw [Nat.testBit_two_pow_sub_one]
      exact decide_eq_decide.2 (by omega)
theorem Wv.fill {G : List Gate} {x : List Nat} {a wd : Nat} {f g : WF} {b : Nat} {F : BF} (h : Wv G x a f) (hb : Bt G b F) (ha : a ≤ wd) (hg : ∀ inp, g inp < 2 ^ wd) (h1 : ∀ inp i, i < a → (g inp).testBit i = (f inp).testBit i) (h2 : ∀ inp i, a ≤ i → i < wd → (g inp).testBit i = F inp) : Wv G (x ++ List.replicate (wd - a) b) wd g := by
  have hl := h.len
  refine ⟨by simp [hl]; omega, fun i hi => ?_, hg⟩
  by_cases e : i < x.length
  · rw [List.getElem_append_left e]
    exact (h.bit i e).congr (fun inp => (h1 inp i (by omega)).symm)
  · rw [List.getElem_append_right (by omega), List.getElem_replicate]
    simp at hi
    exact hb.congr (fun inp => (h2 inp i (by omega) (by omega)).symm)
theorem Wv.trunc {G : List Gate} {x : List Nat} {a wd : Nat} {f : WF} (h : Wv G x a f) (ha : wd ≤ a) : Wv G (x.take wd) wd (fun i => f i % 2 ^ wd) := by
  have hl := h.len
  refine ⟨by simp [hl]; omega, fun i hi => ?_, fun inp => Nat.mod_lt _ (Nat.two_pow_pos _)⟩
  rw [List.getElem_take]
  have hi2 : i < wd ∧ i < x.length := by rw [List.length_take] at hi; omega
  refine (h.bit i hi2.2).congr (fun inp => ?_)
  rw [Nat.testBit_mod_two_pow]; simp [hi2.1]
theorem fset {x : List Nat} {a k wd b : Nat} (hl : x.length = a) (ha : a ≤ k) (hk : k < wd) : ((x ++ List.replicate (k - a) b ++ List.replicate (wd - k) 0).map bv).set k (bv b) = (x ++ List.replicate (k + 1 - a) b ++ List.replicate (wd - (k + 1)) 0).map bv := by
  rw [hset (by simp [hl]; omega) hk, show k + 1 - a = (k - a) + 1 by omega, List.replicate_succ', List.append_assoc x]
theorem siz46 : (Try.prog.info? 46).map (·.size) = some 1 := by kernel_rfl
section
variable {B : Nat} {X P : Nat → Prop} {w : World} {gB : Nat} {cv : Value} {gc : Nat} {gv : Value} {G : List Gate} {n : Nat}
set_option maxRecDepth 4000 in
set_option maxHeartbeats 4000000 in
theorem unary_c (h : BS B X P w gB cv gc gv G n) {xv : Value} {x : List Nat} {a : Nat} {f : WF} (hx : WO (fpX gc gv X) w xv x) (vx : Wv G x a f) (h1 : 1 ≤ a) (h2 : a ≤ 64) (o : Int) (wd : Nat) (k1 : 1 ≤ wd) (k2 : wd ≤ 64) (ho : (o = 0 ∨ o = 1) ∧ a = wd ∨ (o = 2 ∨ o = 3) ∧ a ≤ wd ∨ o = 4 ∧ wd ≤ a) (hl : G.length + 1000 ≤ 700000000) :
    Calls Try.prog 79 #[.pointer (some ⟨gB, 0, none⟩), .int .i64 o, xv, .int .i64 (wd : Nat)] w fun e w' => RV B X P gB cv gc gv w G n 140 wd (fun i => unF o (f i) a wd) e w' := by
  have HL := Hid.mk hl
  have HB0 := Hid.mk h
  have HWx0 := Hid.mk hx
  have HVx0 := Hid.mk vx
  obtain ⟨xa, xc, hxv, x1, x2⟩ := hx.sh vx
  subst hxv
  obtain ⟨x0, -⟩ := h.cells
  have i2 : (wd : Int) ≤ 64 := by omega
  have i3 : (a : Int) ≤ 64 := by omega
  have i4 : (1 : Int) ≤ a := by omega
  have i5 : (1 : Int) ≤ wd := by omega
  unfold maxLen at x2
  clear h hx hl
  rcases ho with ⟨ho | ho, e⟩ | ⟨ho, hle⟩ | ⟨ho, hle⟩
  · subst ho
    subst e
    go_enter Try.func79, Try.ntmps79
    go_wp2_with fail
    refine (notW_k HB0.out HWx0.out HVx0.out h2 (by have := HL.out; omega)).mono ?_
    rintro e w1 ⟨gv1, G1, l1, a1, c1, rfl, b9, s9, e9, wo9, wv9⟩
    have HR := Hid.mk (show RV B X P gB cv gc gv w G n 140 a (fun i => unF 0 (f i) a a) (.returned (.slice a1 a c1)) w1 from ⟨gv1, G1, l1, a1, c1, rfl, b9, s9, e9.mono (by omega), wo9, wv9.congr (fun inp => rfl)⟩)
    clear b9 s9 e9 wo9 wv9
    go_wp2_with fail
    go_ret
    exact HR.out
  · subst ho
    subst e
    have H66 := Hid.mk (const0_k (HB0.out.keep (Keep.refl w).drew) a h1 h2 (by have := HL.out; omega))
    have yd : w.drew.cell? ⟨gB, 0, none⟩ = some (.pointer (some ⟨gc, 0, none⟩)) := x0
    have H95 : Hid (∀ w4 gv2 G2 l2 va vc, BS B X P w4 gB cv gc gv2 G2 n → Stp (fpC gc gv) (fpC gc gv2) w.drew w4 → Ext 64 G G2 → WO (fpX gc gv2 X) w4 (.slice va a vc) l2 → Wv G2 l2 a (fun _ => 0) → Calls Try.prog 95 #[.pointer (some ⟨gc, 0, none⟩), .slice va a vc, .slice xa a xc] w4 fun e w' => RV B X P gB cv gc gv2 w4 G2 n 65 a (fun i => wop 1 0 (f i) a) e w') := Hid.mk (fun w4 gv2 G2 l2 va vc b s e wo wv => sub_k b wo wv (HWx0.out.stepX ((Stp.keep ((Keep.refl w).drew)).trans s)) (HVx0.out.ext e.pre) h1 h2 (by have := HL.out; have := e.len; omega))
    go_enter Try.func79, Try.ntmps79
    go_wp2_with fail
    go_region_held3 (fun w' => w'.cell? ⟨gB, 0, none⟩ = some (.pointer (some ⟨gc, 0, none⟩))) (with_reducible first | exact x0 | exact yd | exact y4 | exact y5)
          (first
            | (go_at_call 66; refine H66.out.mono ?_; rintro e w4 ⟨gv2, G2, l2, va, vc, rfl, b4, s4, e4, wo4, wv4⟩; have C95 := Hid.mk (H95.out _ _ _ _ _ _ b4 s4 e4 wo4 wv4); obtain ⟨y4, -⟩ := b4.cells; have HB4 := Hid.mk b4; have HS4 := Hid.mk s4; have HE4 := Hid.mk e4; clear b4 s4 e4 wo4 wv4)
            | (go_at_call 95; refine C95.out.mono ?_; rintro e w5 ⟨gv3, G3, l3, va3, vc3, rfl, b5, s5, e5, wo5, wv5⟩; obtain ⟨y5, -⟩ := b5.cells; have HR := Hid.mk (show RV B X P gB cv gc gv w G n 140 a (fun i => unF 1 (f i) a a) (.returned (.slice va3 a vc3)) w5 from ⟨gv3, G3, l3, va3, vc3, rfl, b5, ((Stp.keep ((Keep.refl w).drew)).trans HS4.out).trans s5, (HE4.out.trans e5).mono (by omega), wo5, wv5.congr (fun inp => rfl)⟩); clear b5 s5 e5 wo5 wv5))
    rename_i hHd
    clear hHd
    go_wp2_with fail
    go_ret
    exact HR.out
  · rcases ho with rfl | rfl
    · have hln9 := HVx0.out.len
      obtain ⟨xb, xo, hxa, xcl⟩ := HWx0.out.cell (i := a - 1) (by omega)
      subst hxa
      have hfx : Bt G x[a - 1] (fun inp => (f inp).testBit (a - 1)) := HVx0.out.bit (a - 1) (by omega)
      generalize x[a - 1] = fb at *
      have HFX := Hid.mk hfx
      have wa : IntKind.i64.wrap ((a : Int) - 1) = ((a - 1 : Nat) : Int) := by rw [IntKind.wrap_i64]; omega
      have wb : (a : Int) - 1 = ((a - 1 : Nat) : Int) := by omega
      have wc : ((a - 1 : Nat) : Int) < a := by omega
      clear hfx hln9
      have hmk := run_make1 (P := Try.prog) Try.underlying96 inf46 rfl (wd : Int) (wd : Int) (by omega) (by omega) (by omega) (by omega)
      simp only [Int.toNat_natCast] at hmk
      have hmkw := hmk w
      have hln := HVx0.out.len
      have hcp := run_copy1 (P := Try.prog) (dT := 96) (sT := 96) (ty := 3) Try.underlying96 siz46 (dLen := wd) (dCap := wd) (o := 0) (heap_alloc_new w (.cells (rep wd (.int .i64 0)) 46)) (rep_eq _ _) (Sl.keep (show Sl w _ (x.map bv) from HWx0.out.wd) ((Keep.refl w).alloc _)) (fun u hu => by
        obtain ⟨_, _, rfl⟩ := List.mem_map.1 hu
        rfl) (by simp; omega)
      obtain ⟨w1, hw1⟩ : ∃ w1, w1 = w.alloc (.cells (rep wd (.int .i64 0)) 46) := ⟨_, rfl⟩
      obtain ⟨w2, hw2⟩ : ∃ w2, w2 = w1.setRow w.heap.size ((List.replicate wd (Value.int .i64 0)).take 0 ++ (x.map bv).take wd ++ (List.replicate wd (Value.int .i64 0)).drop (0 + min (x.map bv).length wd)).toArray := ⟨_, rfl⟩
      rw [← hw1] at hcp hmkw
      rw [← hw2] at hcp
      rw [List.length_map, hln, Nat.min_eq_left hle] at hcp
      have hcells : (List.replicate wd (Value.int .i64 0)).take 0 ++ (x.map bv).take wd ++ (List.replicate wd (Value.int .i64 0)).drop (0 + min (x.map bv).length wd) = (x ++ List.replicate (a - a) 0 ++ List.replicate (wd - a) 0).map bv := by
        rw [List.take_zero, List.nil_append, List.take_of_length_le (by simp [hln]; omega), List.length_map, hln, Nat.min_eq_left hle, Nat.zero_add, List.drop_replicate, Nat.sub_self]
        simp [bv]
      have K1 : Keep w w1 := by rw [hw1]; exact (Keep.refl w).alloc _
      have K2 : Keep w w2 := by rw [hw2]; exact K1.setRow (Nat.le_refl _) _
      have A2 : Arr w2 w.heap.size 46 ((x ++ List.replicate (a - a) fb ++ List.replicate (wd - a) 0).map bv) := by
        have h9 : Arr w1 w.heap.size 46 (List.replicate wd (Value.int .i64 0)) := by rw [hw1, rep_eq]; exact Arr.new w 46 _
        rw [hw2, hcells]
        rw [Nat.sub_self]
        exact h9.row _
      have HK2 := Hid.mk K2
      have HA2 := Hid.mk A2
      obtain ⟨gU, hgU⟩ : ∃ gU, gU = w.heap.size := ⟨_, rfl⟩
      rw [← hgU] at hmkw hcp HA2
      have HGU := Hid.mk hgU
      clear hmk hw1 hw2 hcells K1 K2 A2 hgU hln
      go_enter Try.func79, Try.ntmps79
      go_wp2_with fail
      refine (false_c gc _).mono ?_
      rintro e w3 ⟨rfl, hw⟩
      subst hw
      clear x0
      go_wp2_with fail
      go_loopg [11] (wd - a) (fun gk v11 wr => ∃ (k : Nat), k + gk = wd ∧ v11 = .int .i64 k ∧ a ≤ k ∧ Keep w3 wr ∧ Arr wr gU 46 ((x ++ List.replicate (k - a) fb ++ List.replicate (wd - k) 0).map bv))
      case atStart => exact ⟨a, by omega, rfl, Nat.le_refl _, HK2.out, HA2.out⟩
      case round =>
        obtain ⟨k, hk, rfl, hak, kp, ar⟩ := hrel
        have HK := Hid.mk hk
        have HKP := Hid.mk kp
        have HAR := Hid.mk ar
        have HAK := Hid.mk hak
        have hln := HVx0.out.len
        by_cases hlt : k < wd
        · have j1 : (k : Int) < wd := by omega
          have j2 : (0 : Int) ≤ k := by omega
          obtain ⟨u1, c1⟩ : ∃ u, wr.cell? ⟨gU, k, none⟩ = some u := ⟨_, (ar.cell k).trans (List.getElem?_eq_getElem (by simp [hln]; omega))⟩
          have fz := ar.frozen k
          have HAN : Hid (Arr (wr.setCell ⟨gU, k, none⟩ (bv fb)) gU 46 ((x ++ List.replicate (k + 1 - a) fb ++ List.replicate (wd - (k + 1)) 0).map bv)) := Hid.mk (by
            have h9 := ar.set k (bv fb)
            rw [fset hln hak hlt] at h9
            exact h9)
          simp only [bv] at HAN
          clear hk kp ar hln
          go_wp2_with fail
          go_roundg (gk - 1)
          case measure => have := HK.out; omega
          case rel => exact ⟨k + 1, by have := HK.out; omega, by go_num, by have := HAK.out; omega, HKP.out.setCell (p := ⟨gU, k, none⟩) (by show w3.heap.size ≤ gU; have := HGU.out; omega) _, by first | exact HAN.out | (rw [← HFB.out]; exact HAN.out)⟩
        · have j1 : ¬ (k : Int) < wd := by omega
          obtain rfl : k = wd := by have := HK.out; omega
          clear hk kp ar
          go_wp2_with fail
          go_ret
          have h9 := HAR.out
          rw [Nat.sub_self, List.replicate_zero, List.append_nil] at h9
          have hll : (x ++ List.replicate (k - a) fb).length = k := by simp [hln]; omega
          refine ⟨gv, G, x ++ List.replicate (k - a) fb, _, _, rfl, HB0.out.keep HKP.out, Stp.keep HKP.out, (Ext.refl HB0.out.wf).mono (by omega), ⟨show Sl _ _ _ from ⟨some ⟨gU, 0, none⟩, k, by rw [List.length_map, hll], by rw [List.length_map, hll]; exact Nat.le_refl _, by simp only [maxLen]; omega, fun i u hu => ⟨gU, 0, rfl, by rw [Nat.zero_add, h9.cell]; exact hu⟩⟩, fun q hq => ?_⟩, ?_⟩
          · obtain rfl : gU = q := by simpa [Value.ownBlock] using hq
            refine ⟨fun a => ?_, h9.lt⟩
            have hg := HGU.out
            rcases a with a | a
            · have := (HB0.out.cc.flt a).2; omega
            · have := HB0.out.hX gU a; omega
          · exact HVx0.out.fill HFX.out hle (fun inp => unF_lt (k := a) k1 (HVx0.out.lt inp) (fun e => absurd e (by decide)) (by decide) (by decide)) (fun inp i hi => by show (sgn (f inp) a % 2 ^ _).toNat.testBit i = _; rw [sext_bit h1 hle (HVx0.out.lt inp), if_pos hi]) (fun inp i hi hw => by show (sgn (f inp) a % 2 ^ _).toNat.testBit i = _; rw [sext_bit h1 hle (HVx0.out.lt inp), if_neg (by omega)]; simp [hw])
    · have hmk := run_make1 (P := Try.prog) Try.underlying96 inf46 rfl (wd : Int) (wd : Int) (by omega) (by omega) (by omega) (by omega)
      simp only [Int.toNat_natCast] at hmk
      have hmkw := hmk w
      have hln := HVx0.out.len
      have hcp := run_copy1 (P := Try.prog) (dT := 96) (sT := 96) (ty := 3) Try.underlying96 siz46 (dLen := wd) (dCap := wd) (o := 0) (heap_alloc_new w (.cells (rep wd (.int .i64 0)) 46)) (rep_eq _ _) (Sl.keep (show Sl w _ (x.map bv) from HWx0.out.wd) ((Keep.refl w).alloc _)) (fun u hu => by
        obtain ⟨_, _, rfl⟩ := List.mem_map.1 hu
        rfl) (by simp; omega)
      obtain ⟨w1, hw1⟩ : ∃ w1, w1 = w.alloc (.cells (rep wd (.int .i64 0)) 46) := ⟨_, rfl⟩
      obtain ⟨w2, hw2⟩ : ∃ w2, w2 = w1.setRow w.heap.size ((List.replicate wd (Value.int .i64 0)).take 0 ++ (x.map bv).take wd ++ (List.replicate wd (Value.int .i64 0)).drop (0 + min (x.map bv).length wd)).toArray := ⟨_, rfl⟩
      rw [← hw1] at hcp hmkw
      rw [← hw2] at hcp
      rw [List.length_map, hln, Nat.min_eq_left hle] at hcp
      have hcells : (List.replicate wd (Value.int .i64 0)).take 0 ++ (x.map bv).take wd ++ (List.replicate wd (Value.int .i64 0)).drop (0 + min (x.map bv).length wd) = (x ++ List.replicate (a - a) 0 ++ List.replicate (wd - a) 0).map bv := by
        rw [List.take_zero, List.nil_append, List.take_of_length_le (by simp [hln]; omega), List.length_map, hln, Nat.min_eq_left hle, Nat.zero_add, List.drop_replicate, Nat.sub_self]
        simp [bv]
      have K1 : Keep w w1 := by rw [hw1]; exact (Keep.refl w).alloc _
      have K2 : Keep w w2 := by rw [hw2]; exact K1.setRow (Nat.le_refl _) _
      have A2 : Arr w2 w.heap.size 46 ((x ++ List.replicate (a - a) 0 ++ List.replicate (wd - a) 0).map bv) := by
        have h9 : Arr w1 w.heap.size 46 (List.replicate wd (Value.int .i64 0)) := by rw [hw1, rep_eq]; exact Arr.new w 46 _
        rw [hw2, hcells]
        rw [Nat.sub_self]
        exact h9.row _
      have HK2 := Hid.mk K2
      have HA2 := Hid.mk A2
      obtain ⟨gU, hgU⟩ : ∃ gU, gU = w.heap.size := ⟨_, rfl⟩
      rw [← hgU] at hmkw hcp HA2
      have HGU := Hid.mk hgU
      clear hmk hw1 hw2 hcells K1 K2 A2 hgU hln
      go_enter Try.func79, Try.ntmps79
      go_wp2_with fail
      refine (false_c gc _).mono ?_
      rintro e w3 ⟨rfl, hw⟩
      subst hw
      clear x0
      go_wp2_with fail
      go_loopg [11] (wd - a) (fun gk v11 wr => ∃ (k : Nat), k + gk = wd ∧ v11 = .int .i64 k ∧ a ≤ k ∧ Keep w3 wr ∧ Arr wr gU 46 ((x ++ List.replicate (k - a) 0 ++ List.replicate (wd - k) 0).map bv))
      case atStart => exact ⟨a, by omega, rfl, Nat.le_refl _, HK2.out, HA2.out⟩
      case round =>
        obtain ⟨k, hk, rfl, hak, kp, ar⟩ := hrel
        have HK := Hid.mk hk
        have HKP := Hid.mk kp
        have HAR := Hid.mk ar
        have HAK := Hid.mk hak
        have hln := HVx0.out.len
        by_cases hlt : k < wd
        · have j1 : (k : Int) < wd := by omega
          have j2 : (0 : Int) ≤ k := by omega
          obtain ⟨u1, c1⟩ : ∃ u, wr.cell? ⟨gU, k, none⟩ = some u := ⟨_, (ar.cell k).trans (List.getElem?_eq_getElem (by simp [hln]; omega))⟩
          have fz := ar.frozen k
          have HAN : Hid (Arr (wr.setCell ⟨gU, k, none⟩ (bv 0)) gU 46 ((x ++ List.replicate (k + 1 - a) 0 ++ List.replicate (wd - (k + 1)) 0).map bv)) := Hid.mk (by
            have h9 := ar.set k (bv 0)
            rw [fset hln hak hlt] at h9
            exact h9)
          simp only [bv] at HAN
          clear hk kp ar hln
          go_wp2_with fail
          go_roundg (gk - 1)
          case measure => have := HK.out; omega
          case rel => exact ⟨k + 1, by have := HK.out; omega, by go_num, by have := HAK.out; omega, HKP.out.setCell (p := ⟨gU, k, none⟩) (by show w3.heap.size ≤ gU; have := HGU.out; omega) _, by first | exact HAN.out | (rw [← HFB.out]; exact HAN.out)⟩
        · have j1 : ¬ (k : Int) < wd := by omega
          obtain rfl : k = wd := by have := HK.out; omega
          clear hk kp ar
          go_wp2_with fail
          go_ret
          have h9 := HAR.out
          rw [Nat.sub_self, List.replicate_zero, List.append_nil] at h9
          have hll : (x ++ List.replicate (k - a) 0).length = k := by simp [hln]; omega
          refine ⟨gv, G, x ++ List.replicate (k - a) 0, _, _, rfl, HB0.out.keep HKP.out, Stp.keep HKP.out, (Ext.refl HB0.out.wf).mono (by omega), ⟨show Sl _ _ _ from ⟨some ⟨gU, 0, none⟩, k, by rw [List.length_map, hll], by rw [List.length_map, hll]; exact Nat.le_refl _, by simp only [maxLen]; omega, fun i u hu => ⟨gU, 0, rfl, by rw [Nat.zero_add, h9.cell]; exact hu⟩⟩, fun q hq => ?_⟩, ?_⟩
          · obtain rfl : gU = q := by simpa [Value.ownBlock] using hq
            refine ⟨fun a => ?_, h9.lt⟩
            have hg := HGU.out
            rcases a with a | a
            · have := (HB0.out.cc.flt a).2; omega
            · have := HB0.out.hX gU a; omega
          · exact HVx0.out.fill HB0.out.wf.2 hle (fun inp => Nat.lt_of_lt_of_le (HVx0.out.lt inp) (Nat.pow_le_pow_right (by decide) hle)) (fun inp i hi => rfl) (fun inp i hi _ => tb_hi (HVx0.out.lt inp) (by omega))
  · subst ho
    have j1 : (wd : Int) ≤ a := by omega
    have j2 : (a : Int) ≤ xc := by omega
    have HR : Hid (RV B X P gB cv gc gv w G n 140 wd (fun i => unF 4 (f i) a wd) (.returned (.slice xa wd xc)) w) := Hid.mk ⟨gv, G, x.take wd, xa, xc, rfl, HB0.out, Stp.keep (Keep.refl w), (Ext.refl HB0.out.wf).mono (by omega), by
      have hp := HWx0.out
      obtain ⟨a', c', e', e1, e2, e3⟩ := hp.wd
      injection e' with e4 e5 e6
      subst e4 e6
      have hl := HVx0.out.len
      have hw : Wd w (.slice xa wd xc) (x.take wd) := ⟨xa, xc, by simp [hl]; omega, by simp [hl]; omega, by simp only [maxLen]; omega, fun i u hu => by
        refine e3 i u ?_
        rw [List.map_take, List.getElem?_take] at hu
        split at hu
        · exact hu
        · cases hu⟩
      exact ⟨hw, fun q hq => hp.nb q (by cases xa with
        | none => simp [Value.ownBlock] at hq
        | some y => simpa [Value.ownBlock] using hq)⟩, (HVx0.out.trunc hle).congr (fun inp => rfl)⟩
    go_enter Try.func79, Try.ntmps79
    go_wp2_with fail
    go_ret
    exact HR.out
end
end Go.Proofs.Qxb6500772a
