/- circuitm: Eval, the walk. -/
import Derived.Test.Qxb6500772aCl
namespace Go.Proofs.Qxb6500772a
open Go.RowKit Go.Qm
set_option linter.unusedVariables false
set_option linter.unusedSimpArgs false
attribute [local go_sem ↓] Go.wp_at_zero Go.wp_at_succ
theorem Sl.cellx {w : World} {a : Option Addr} {m c : Nat} {xs : List Value} (h : Sl w (.slice a m c) xs) {i : Nat} (hi : i < xs.length) : ∃ b o, a = some ⟨b, o, none⟩ ∧ w.cell? ⟨b, o + i, none⟩ = some xs[i] := by
  obtain ⟨a', c', e, -, -, h3⟩ := h
  injection e with e1 _ _
  subst e1
  exact h3 i _ (by simp [hi])
def bval (b : Bool) : Value := .bool b
def inpF (ins : List Bool) (a : Nat) : Bool := ins.getD a false
set_option maxRecDepth 4000 in
set_option maxHeartbeats 4000000 in
theorem eval_c {B gc n : Nat} {X : Nat → Prop} {gv : Value} {G : List Gate} {w : World} (h : CC B X w gc gv G n) (hw : WFG G) (hl : G.length ≤ 900000000) {iv : Value} {ins : List Bool} (hi : Sl w iv (ins.map bval)) :
    Calls Try.prog 9 #[.pointer (some ⟨gc, 0, none⟩), iv] w fun e w' => ∃ vv, e = .returned vv ∧ Keep w w' ∧ Vs w' vv (ev G (inpF ins)) := by
  have HC := Hid.mk h
  have HW := Hid.mk hw
  have HI := Hid.mk hi
  obtain ⟨ga, gcap, hgv, g1, g2, x0, hrow⟩ := h.row
  subst hgv
  obtain ⟨ia, ic, hiv, i1, i2, -⟩ := hi
  rw [List.length_map] at hiv i1
  subst hiv
  have HR := Hid.mk hrow
  unfold maxLen at g2 i2
  have hli : (G.length : Int) ≤ 900000000 := by omega
  have HL := Hid.mk hl
  have hmk := run_make1 (P := Try.prog) Try.underlying53 inf28 rfl (G.length : Int) (G.length : Int) (by omega) (by omega) (by omega) (by omega)
  simp only [Int.toNat_natCast] at hmk
  obtain ⟨w1, hw1⟩ : ∃ w1, w1 = w.alloc (.cells (rep G.length (.int .u64 0)) 28) := ⟨_, rfl⟩
  have K1 : Keep w w1 := by rw [hw1]; exact (Keep.refl w).alloc _
  have A1 : EvR w1 w.heap.size G.length (ev (G.take 0) (inpF ins)) := by
    refine ⟨?_, by simp [ev]⟩
    have e : ((ev (G.take 0) (inpF ins) ++ List.replicate (G.length - (ev (G.take 0) (inpF ins)).length) 0).map uv) = List.replicate G.length (.int .u64 0) := by simp [ev, uv]
    rw [e, hw1, rep_eq]
    exact Arr.new w 28 _
  have x1 := K1.cell x0
  have hmkw := hmk w
  rw [← hw1] at hmkw
  have HA1 := Hid.mk A1
  have HK1 := Hid.mk K1
  have hgV : w.heap.size < w1.heap.size := A1.1.lt
  have HGV : Hid (∀ W, Keep w W → ∀ q, q < w.heap.size → q < W.heap.size) := Hid.mk (fun W k q hq => Nat.lt_of_lt_of_le hq k.size)
  clear h hw hrow hl hmk hw1 A1 K1
  generalize hgg : w.heap.size = gV at *
  have HGG := Hid.mk hgg
  clear hgg
  go_enter Try.func9, Try.ntmps9
  go_wp2_with fail
  go_loopg [6, 7, 19] G.length (fun gk v6 v7 v19 wr => ∃ (k : Nat), k + gk = G.length ∧ v19 = .int .i64 k ∧ Keep w wr ∧ EvR wr gV G.length (ev (G.take k) (inpF ins)))
  case atStart => exact ⟨0, by omega, rfl, HK1.out, HA1.out⟩
  case round =>
    obtain ⟨k, hk, rfl, kp, er⟩ := hrel
    have HK := Hid.mk hk
    have HKP := Hid.mk kp
    have HER := Hid.mk er
    by_cases hlt : k < G.length
    · have j1 : (k : Int) < G.length := by omega
      have j2 : (0 : Int) ≤ k := by omega
      obtain ⟨g, xv, yv, ha, wx, wy, cl⟩ := HR.out k hlt
      subst ha
      have HT : Hid (ev (G.take (k + 1)) (inpF ins) = ev (G.take k) (inpF ins) ++ [gvl (inpF ins) (ev (G.take k) (inpF ins)) G[k]]) := Hid.mk (ev_take hlt _)
      have hgok := HW.out.1 G[k] (List.getElem_mem hlt)
      have hvl : (ev (G.take k) (inpF ins)).length = k := by rw [ev_len, List.length_take]; omega
      have HBL := fun b (hb : isBit G b) => val_le hb (inpF ins) k
      have c0 := kp.cell (cl 0 (by decide))
      have c1 := kp.cell (cl 1 (by decide))
      have c2 := kp.cell (cl 2 (by decide))
      have c3 := kp.cell (cl 3 (by decide))
      have c4 := kp.cell (cl 4 (by decide))
      have c5 := kp.cell (cl 5 (by decide))
      simp only [Nat.add_zero, gateC] at c0 c1 c2 c3 c4 c5
      have hne : g ≠ wr.heap.size := fun e => by
        exact World.new_ne wr _ c0 e.symm
      have HGOK := Hid.mk hgok
      have HVLT : Hid (∀ b, (ev (G.take k) (inpF ins)).getD b 0 < 2 ^ 64) := Hid.mk (fun b => ev_getlt HW.out _ (by omega) b)
      have HPAD : Hid (∀ b, b < G.length → (ev (G.take k) (inpF ins) ++ List.replicate (G.length - (ev (G.take k) (inpF ins)).length) 0).getD b 0 = (ev (G.take k) (inpF ins)).getD b 0) := Hid.mk (fun b hb => by
        obtain ⟨p1, p2⟩ := getD_pad (vs := ev (G.take k) (inpF ins)) hb (by omega)
        rw [← p2]; simp only [List.getD_eq_getElem?_getD, List.getElem?_eq_getElem p1]; rfl)
      have HHBL := Hid.mk HBL
      generalize G[k] = gt at *
      generalize ev (G.take k) (inpF ins) = vs at *
      obtain ⟨xa, xc, hxv, xx1, xx2⟩ := wx.form
      obtain ⟨ya, yc, hyv, yy1, yy2⟩ := wy.form
      subst hxv hyv
      have HWX := Hid.mk wx
      have HWY := Hid.mk wy
      have HVL := Hid.mk hvl
      clear cl wx wy hgok HBL hk hvl kp er
      obtain ⟨gk', ga', gb', gop, gx, gy⟩ := gt
      simp only at *
      go_upto_region 5 with fail
      obtain ⟨W, hW⟩ : ∃ W, W = wr.alloc (.cells #[.int .i64 (gk' : Nat), .int .i64 (ga' : Nat), .int .i64 (gb' : Nat), .int .i64 (gop : Nat), .slice xa gx.length xc, .slice ya gy.length yc] 103) := ⟨_, rfl⟩
      rw [← hW]
      have kW : Keep wr W := by rw [hW]; exact (Keep.refl wr).alloc _
      have aW : Arr W wr.heap.size 103 [.int .i64 (gk' : Nat), .int .i64 (ga' : Nat), .int .i64 (gb' : Nat), .int .i64 (gop : Nat), .slice xa gx.length xc, .slice ya gy.length yc] := by rw [hW]; exact Arr.new wr 103 _
      have hEW := HER.out.keep kW
      have HKW := Hid.mk (HKP.out.trans kW)
      have HEW := Hid.mk hEW
      have hVA : gV ≠ wr.heap.size := fun e => by have := HER.out.1.lt; omega
      generalize wr.heap.size = gA at *
      have d0 := aW.cell 0
      have d1 := aW.cell 1
      have d2 := aW.cell 2
      have d3 := aW.cell 3
      have d4 := aW.cell 4
      have d5 := aW.cell 5
      simp only [List.getElem?_cons_zero, List.getElem?_cons_succ] at d0 d1 d2 d3 d4 d5
      have fV := hEW.1.frozen k
      have vK := hEW.cell hlt
      have SETK : Hid (∀ u : Nat, gvl (inpF ins) vs ⟨gk', ga', gb', gop, gx, gy⟩ = u → Keep w (W.setCell ⟨gV, k, none⟩ (.int .u64 (u : Nat))) ∧ EvR (W.setCell ⟨gV, k, none⟩ (.int .u64 (u : Nat))) gV G.length (ev (G.take (k + 1)) (inpF ins))) := Hid.mk (fun u hu => by
        refine ⟨HKW.out.setCell (by rw [HGG.out]; exact Nat.le_refl _) _, ?_⟩
        rw [HT.out, hu]
        have := HEW.out.set (by rw [HVL.out]; exact hlt) u
        rw [HVL.out] at this
        exact this)
      clear hW kW hEW c0 c1 c2 c3 c4 c5 aW hne
      have hk5 := HGOK.out.k
      simp only at hk5
      have hkk : gk' = 0 ∨ gk' = 1 ∨ gk' = 2 ∨ gk' = 3 ∨ gk' = 4 ∨ gk' = 5 := by omega
      clear hk5
      rcases hkk with rfl | rfl | rfl | rfl | rfl | rfl
      · go_wp2_with fail
        go_roundg (gk - 1)
        case measure => have := HK.out; omega
        case rel =>
          refine ⟨k + 1, by have := HK.out; omega, by go_num, HKW.out, ?_⟩
          rw [HT.out]
          exact HEW.out.zero (by rw [HVL.out]; exact hlt)
      · by_cases hin : ga' < ins.length
        · have m1 : (ga' : Int) < ins.length := by omega
          have m2 : (0 : Int) ≤ ga' := by omega
          obtain ⟨b, o, hia, hci⟩ := Sl.cellx HI.out (i := ga') (by simp [hin])
          subst hia
          have hci2 := HKW.out.cell hci
          have hgv : gvl (inpF ins) vs ⟨1, ga', gb', gop, gx, gy⟩ = (ins[ga']).toNat := by
            simp [gvl, inpF, List.getD_eq_getElem?_getD, hin]
          simp only [List.getElem_map] at hci2
          have HGVL := Hid.mk hgv
          generalize ins[ga'] = bb at *
          clear hgv hci
          unfold bval at hci2
          cases bb
          · go_wp2_with fail
            go_roundg (gk - 1)
            case measure => have := HK.out; omega
            case rel =>
              refine ⟨k + 1, by have := HK.out; omega, by go_num, HKW.out, ?_⟩
              rw [HT.out, HGVL.out]
              exact HEW.out.zero (by rw [HVL.out]; exact hlt)
          · have SK := SETK.out 1 HGVL.out
            go_wp2_with fail
            go_roundg (gk - 1)
            case measure => have := HK.out; omega
            case rel => exact ⟨k + 1, by have := HK.out; omega, by go_num, SK.1, SK.2⟩
        · have m1 : ¬ (ga' : Int) < ins.length := by omega
          have hgv : gvl (inpF ins) vs ⟨1, ga', gb', gop, gx, gy⟩ = 0 := by
            simp [gvl, inpF, List.getD_eq_getElem?_getD, Nat.le_of_not_lt hin]
          have HGVL := Hid.mk hgv
          clear hgv
          go_wp2_with fail
          go_roundg (gk - 1)
          case measure => have := HK.out; omega
          case rel =>
            refine ⟨k + 1, by have := HK.out; omega, by go_num, HKW.out, ?_⟩
            rw [HT.out, HGVL.out]
            exact HEW.out.zero (by rw [HVL.out]; exact hlt)
      · have hbit := HGOK.out.n rfl
        simp only at hbit
        have hlt2 : ga' < G.length := by obtain ⟨f, hf⟩ := hbit; exact hf.1
        have hv1 := HHBL.out ga' hbit
        have vA := HEW.out.cell hlt2
        have hgv : gvl (inpF ins) vs ⟨2, ga', gb', gop, gx, gy⟩ = 1 - vs.getD ga' 0 := rfl
        generalize vs.getD ga' 0 = va at *
        have SK := SETK.out _ hgv
        have ew : IntKind.u64.wrap (1 - (va : Int)) = ((1 - va : Nat) : Int) := by rw [IntKind.wrap_u64]; omega
        have m1 : (ga' : Int) < G.length := by omega
        have m2 : (0 : Int) ≤ ga' := by omega
        have HSK := Hid.mk SK
        have HEWW := Hid.mk ew
        clear hgv SK hbit hlt2 hv1 ew
        go_wp2_with fail
        go_roundg (gk - 1)
        case measure => have := HK.out; omega
        case rel =>
          rw [HEWW.out]
          exact ⟨k + 1, by have := HK.out; omega, by go_num, HSK.out.1, HSK.out.2⟩
      · have hbit := HGOK.out.d rfl
        simp only at hbit
        have hlt2 : ga' < G.length := by obtain ⟨f, hf⟩ := hbit.1; exact hf.1
        have hlt3 : gb' < G.length := by obtain ⟨f, hf⟩ := hbit.2; exact hf.1
        have hv1 := HHBL.out ga' hbit.1
        have hv2 := HHBL.out gb' hbit.2
        have vA := HEW.out.cell hlt2
        have vB := HEW.out.cell hlt3
        have hgv : gvl (inpF ins) vs ⟨3, ga', gb', gop, gx, gy⟩ = vs.getD ga' 0 &&& vs.getD gb' 0 := rfl
        generalize vs.getD ga' 0 = va at *
        generalize vs.getD gb' 0 = vb at *
        have SK := SETK.out _ hgv
        have ew : bits .and .u64 (va : Int) (vb : Int) = ((va &&& vb : Nat) : Int) := bits_and_u64 _ _ (by omega) (by omega)
        have m1 : (ga' : Int) < G.length := by omega
        have m2 : (0 : Int) ≤ ga' := by omega
        have m3 : (gb' : Int) < G.length := by omega
        have m4 : (0 : Int) ≤ gb' := by omega
        have HSK := Hid.mk SK
        have HEWW := Hid.mk ew
        clear hgv SK hbit hlt2 hlt3 hv1 hv2 ew
        go_wp2_with fail
        go_region
        all_goals
          go_wp2_with fail
          go_roundg (gk - 1)
          case measure => have := HK.out; omega
          case rel =>
            rw [HEWW.out]
            exact ⟨k + 1, by have := HK.out; omega, by go_num, HSK.out.1.drew, ⟨HSK.out.2.1, HSK.out.2.2⟩⟩
      · have hx := HGOK.out.x rfl
        have hy := HGOK.out.y rfl
        have hl4 := HGOK.out.l rfl
        simp only at hx hy hl4
        obtain ⟨l1, l2, l3, l4⟩ := hl4
        have hpl : (vs ++ List.replicate (G.length - vs.length) 0).length = G.length := by have := HVL.out; simp; omega
        have hbx : ∀ b ∈ gx, b < (vs ++ List.replicate (G.length - vs.length) 0).length ∧ (vs ++ List.replicate (G.length - vs.length) 0).getD b 0 ≤ 1 := fun b hb => by
          have h0 := hx b hb
          have h1 : b < G.length := by obtain ⟨f, hf⟩ := h0; exact hf.1
          exact ⟨by rw [hpl]; exact h1, by rw [HPAD.out b h1]; exact HHBL.out b h0⟩
        have hby : ∀ b ∈ gy, b < (vs ++ List.replicate (G.length - vs.length) 0).length ∧ (vs ++ List.replicate (G.length - vs.length) 0).getD b 0 ≤ 1 := fun b hb => by
          have h0 := hy b hb
          have h1 : b < G.length := by obtain ⟨f, hf⟩ := h0; exact hf.1
          exact ⟨by rw [hpl]; exact h1, by rw [HPAD.out b h1]; exact HHBL.out b h0⟩
        have WVx := fun W' (kk : Keep W W') => word_v ((HEW.out.keep kk).vs (by have := HL.out; simp [maxLen]; omega)) ((HWX.out.keep (HKW.out.trans kk))) l3 hbx
        have WVy := fun W' (kk : Keep W W') => word_v ((HEW.out.keep kk).vs (by have := HL.out; simp [maxLen]; omega)) ((HWY.out.keep (HKW.out.trans kk))) (by omega) hby
        have ex : ∀ l : List Nat, (∀ b ∈ l, isBit G b) → wordN (vs ++ List.replicate (G.length - vs.length) 0) l = wordN vs l := fun l hl => by
          induction l with
          | nil => rfl
          | cons b l ih =>
            rw [wordN, wordN, ih (fun b hb => hl b (by simp [hb])), HPAD.out b (by obtain ⟨f, hf⟩ := hl b (by simp); exact hf.1)]
        rw [ex gx hx] at WVx
        rw [ex gy hy] at WVy
        have hwx : wordN vs gx < 2 ^ gx.length := wordN_len (fun b hb => HHBL.out b (hx b hb))
        have hwy : wordN vs gy < 2 ^ gx.length := by rw [l1]; exact wordN_len (fun b hb => HHBL.out b (hy b hb))
        have hgv : gvl (inpF ins) vs ⟨4, ga', gb', gop, gx, gy⟩ = wop gop (wordN vs gx) (wordN vs gy) gx.length := rfl
        have SK := SETK.out _ hgv
        have AP := capply_c gop l4 hwx hwy l2 l3
        have HSK := Hid.mk SK
        have HX := Hid.mk WVx
        have HY := Hid.mk WVy
        have HAP := Hid.mk AP
        generalize wordN vs gx = nx at *
        generalize wordN vs gy = ny at *
        generalize wop gop nx ny gx.length = rr at *
        have l3i : (gx.length : Int) ≤ 64 := by omega
        clear hx hy hpl hbx hby WVx WVy ex hwx hwy hgv SK AP l1 l2 l3 l4
        go_wp2_with fail
        go_region_held3 (fun w' => w'.cell? ⟨gA, 3, none⟩ = some (.int .i64 (gop : Nat)) ∧ w'.cell? ⟨gA, 4, none⟩ = some (.slice xa gx.length xc) ∧ w'.cell? ⟨gA, 5, none⟩ = some (.slice ya gy.length yc)) (first | exact ⟨d3, d4, d5⟩ | go_keep)
          (first | ((fail_if_success have := Q1); go_at_call 35; refine (HX.out _ ((Keep.refl W).drew)).mono ?_; rintro e y1 ⟨rfl, hy1⟩; subst hy1; have Q1 : True := trivial) | (go_at_call 35; refine (HY.out _ ((Keep.refl W).drew)).mono ?_; rintro e y1 ⟨rfl, hy1⟩; subst hy1) | (go_at_call 34; refine (HAP.out _).mono ?_; rintro e y1 ⟨rfl, hy1⟩; subst hy1))
        go_wp2_with fail
        go_roundg (gk - 1)
        case measure => have := HK.out; omega
        case rel => exact ⟨k + 1, by have := HK.out; omega, by go_num, HSK.out.1.drew, ⟨HSK.out.2.1, HSK.out.2.2⟩⟩
      · have hb := HGOK.out.b rfl
        simp only at hb
        have vA := HEW.out.cell hb.1
        have hgv : gvl (inpF ins) vs ⟨5, ga', gb', gop, gx, gy⟩ = vs.getD ga' 0 / 2 ^ gb' % 2 := rfl
        have hv64 := HVLT.out ga'
        generalize vs.getD ga' 0 = va at *
        have SK := SETK.out _ hgv
        have ew : bits .and .u64 ((va : Int) / 2 ^ gb') 1 = ((va / 2 ^ gb' % 2 : Nat) : Int) := by
          rw [bits_bit va gb' hv64, Nat.testBit_eq_decide_div_mod_eq]
          rcases Nat.mod_two_eq_zero_or_one (va / 2 ^ gb') with a | a <;> simp [a]
        have m1 : (ga' : Int) < G.length := by omega
        have m2 : (0 : Int) ≤ ga' := by omega
        have m3 : (gb' : Int) < 64 := by omega
        have m4 : (0 : Int) ≤ gb' := by omega
        have HSK := Hid.mk SK
        have HEWW := Hid.mk ew
        clear hgv SK hb hv64 ew
        go_wp2_with fail
        go_region
        all_goals
          go_wp2_with fail
          go_roundg (gk - 1)
          case measure => have := HK.out; omega
          case rel =>
            rw [HEWW.out]
            exact ⟨k + 1, by have := HK.out; omega, by go_num, HSK.out.1.drew, ⟨HSK.out.2.1, HSK.out.2.2⟩⟩
    · have j1 : ¬ (k : Int) < G.length := by omega
      obtain rfl : k = G.length := by omega
      clear hk kp er
      go_wp2_with fail
      go_ret
      refine ⟨_, rfl, HKP.out, ?_⟩
      have h1 := HER.out.vs (by simp [maxLen]; omega)
      rw [List.take_length] at h1
      rw [ev_len, Nat.sub_self] at h1
      simpa using h1
end Go.Proofs.Qxb6500772a
