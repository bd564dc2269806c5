/- BadHandlesGetEBADF. -/
import Derived.Test.Qxb6500767aSmall
import Derived.Test.Qxb6500767aGk
import Derived.BigQuiet
namespace Go.Proofs.Qxb6500767a
open Go.RowKit Go.Qm
set_option linter.unusedVariables false
set_option linter.unusedSimpArgs false
attribute [local go_sem ↓] Go.wp_at_zero Go.wp_at_succ
def onH (k : Int) : Bool := decide (2 ≤ k) && decide (k ≤ 10)
theorem onHandle_c (k : Int) (w : World) : Calls Try.prog 21 #[.int .i64 k] w fun e w' => e = .returned (.bool (onH k)) ∧ w' = w := by
  by_cases h : 2 ≤ k
  · have HV : Hid (onH k = decide (k ≤ 10)) := Hid.mk (by unfold onH; rw [decide_eq_true h]; rfl)
    have z : decide (2 ≤ k) = true := decide_eq_true h
    generalize onH k = V at *
    go_enter Try.func21, Try.ntmps21
    go_wp2_with fail
    go_ret
    rw [HV.out]
    exact ⟨rfl, rfl⟩
  · have HV : Hid (onH k = false) := Hid.mk (by unfold onH; rw [decide_eq_false h]; rfl)
    have z : decide (2 ≤ k) = false := decide_eq_false h
    generalize onH k = V at *
    go_enter Try.func21, Try.ntmps21
    go_wp2_with fail
    go_ret
    rw [HV.out]
    exact ⟨rfl, rfl⟩
@[go_sem] theorem run_field48_0 (a b c d e f : Value) (w : World) : (Instr.field 48 (.agg #[a, b, c, d, e, f]) 0).run Try.prog w = .ok a w := by
  unfold Instr.field
  have := Try.underlying48
  go_simp
  rfl
@[go_sem] theorem run_field34_0 (a b c d e f g h i : Value) (w : World) : (Instr.field 34 (.agg #[a, b, c, d, e, f, g, h, i]) 0).run Try.prog w = .ok a w := by
  unfold Instr.field
  have := Try.underlying34
  go_simp
  rfl
theorem look_opn (u : Nat) (hs : List Hd) (h : Int) : (lookF u hs h).opn = opn u h := by
  unfold lookF; cases e : opn u h <;> simp [vw0]
theorem bad_er {s : Stt} {o : OpV} (h1 : onH o.kind = true) (h2 : opn s.u o.h = false) : (playF s o).1.er = 1 := by
  have hk : 2 ≤ o.kind ∧ o.kind ≤ 10 := by unfold onH at h1; simpa using h1
  have g : ∀ need, getOK s.u s.hs o.h need = false := fun need => by unfold getOK; rw [h2]; rfl
  have : o.kind = 2 ∨ o.kind = 3 ∨ o.kind = 4 ∨ o.kind = 5 ∨ o.kind = 6 ∨ o.kind = 7 ∨ o.kind = 8 ∨ o.kind = 9 ∨ o.kind = 10 := by omega
  rcases this with h | h | h | h | h | h | h | h | h
  · rw [playF2 h]; simp only [clsF, g]; rfl
  · rw [playF3 h]; simp only [rdF, g]; rfl
  · rw [playF4 h]; simp only [rdaF, g]; rfl
  · rw [playF5 h]; simp only [wrF, g]; rfl
  · rw [playF6 h]; simp only [skF, g]; rfl
  · rw [playF7 h]; simp only [ftrT, g]; rfl
  · rw [playF8 h]; simp only [fstF, g]; rfl
  · rw [playF9 h]; simp only [fchT, g]; rfl
  · rw [playF10 h]; simp only [rddF, g]; rfl
set_option maxRecDepth 4000 in
set_option maxHeartbeats 8000000 in
theorem badHandles_c (v : Value) (ss : List OpV) (w : World) (h : Script w v ss) : Calls Try.prog 5 #[v] w fun e w' => e = .returned (.bool true) ∧ Keep w w' := by
  have SM := small_c v ss w h
  obtain ⟨av, cv, rfl, hac, hcm, hca⟩ := h
  unfold maxLen at hcm
  go_enter Try.func5, Try.ntmps5
  go_wp2_with fail
  refine SM.mono ?_
  rintro e w1 ⟨⟨b, rfl, hsm⟩, k1⟩
  cases b with
  | false =>
    go_wp2_with fail
    go_ret
    exact ⟨rfl, k1⟩
  | true =>
    obtain ⟨hlen, hnm⟩ := hsm rfl
    have HNM := Hid.mk hnm
    have HCA := Hid.mk hca
    clear hsm hnm hca SM
    go_wp2_with fail
    refine (newWorld_c w1).mono ?_
    rintro e w2 ⟨gw, gf, gt, fp, rfl, W2, k2, hgw⟩
    have HW2 := Hid.mk W2
    clear W2
    go_wp2_with fail
    go_loopg [4] ss.length (fun gk iv wr => ∃ (k : Nat) (fp : Nat → Prop), k + gk = ss.length ∧ iv = .int .i64 k ∧ WW w1.heap.size fp wr gw gf gt (runS ss k) ∧ Keep w1 wr)
    case atStart => exact ⟨0, fp, by omega, rfl, HW2.out, k2⟩
    case round =>
      obtain ⟨k, f1, hk, rfl, W_, kw⟩ := hrel
      have HK := Hid.mk hk
      clear hk
      by_cases hlt : k < ss.length
      · have i1 : (k : Int) < ss.length := by omega
        obtain ⟨b, o, rfl, hop⟩ := HCA.out k hlt
        have hnk := HNM.out ss[k] (List.getElem_mem hlt)
        have RS : Hid (runS ss (k + 1) = (playF (runS ss k) ss[k]).2) := Hid.mk (runS_succ hlt)
        have si := run_si ss k (by omega)
        have PC := fun f W (hW : WW w1.heap.size f W gw gf gt (runS ss k)) => play_c ss[k] hW si (by omega) (by omega) (by omega) (by omega)
        have HX := Hid.mk (fun W (hk : Keep w1 W) => hop.keep (k1.trans hk))
        have hbad := @bad_er (runS ss k) ss[k]
        have LK := fun W (hk : Keep wr W) => vLook_c gf gt (runS ss k).u ss[k].h (runS ss k).hs W (W_.v.fs.keep hk)
        have hvo := look_opn (runS ss k).u (runS ss k).hs ss[k].h
        generalize lookF (runS ss k).u (runS ss k).hs ss[k].h = V at *
        obtain ⟨vo, vn, vf, vd, vof, vc⟩ := V
        simp only at hvo
        unfold PlayP at PC
        generalize runS ss k = S at *
        generalize ss[k] = op at *
        generalize playF S op = P at *
        obtain ⟨⟨er, nn, dd, sa, pg⟩, S'⟩ := P
        simp only at PC hbad RS
        rw [← hvo] at hbad
        obtain ⟨okd, oh, ofl, omo, on, oo, owh, opp, op2, od⟩ := op
        unfold opC ansC at PC
        unfold vwC at LK
        simp only at PC LK hbad hnk
        have OH := fun W => onHandle_c okd W
        have X := HX.out _ kw
        have x0 := X.c0
        have x1 := X.c1
        have p1 : wr.cell? ⟨gw, 1, none⟩ = some (.pointer (some ⟨gf, 0, none⟩)) := W_.arr.cell 1
        have HW := Hid.mk W_
        have HPC := Hid.mk PC
        have HLK := Hid.mk LK
        have HBD := Hid.mk hbad
        simp only at x0 x1
        clear hop X PC LK hbad W_ hvo si hnk HW2
        obtain ⟨w0, hw0⟩ : ∃ w0, w0 = wr := ⟨_, rfl⟩
        subst hw0
        go_upto_region 7 with fail
        go_cut [5] from 16 to 35 (fun bv wx => bv = .bool (onH okd && !vo) ∧ Keep w0 wx)
        case first =>
          cases hon : onH okd with
          | true =>
            rw [hon] at OH
            go_region_held3 (fun W => W.cell? ⟨gw, 1, none⟩ = some (.pointer (some ⟨gf, 0, none⟩)) ∧ W.cell? ⟨b, o + k * 10, none⟩ = some (.int .i64 okd) ∧ W.cell? ⟨b, o + k * 10 + 1, none⟩ = some (.int .i64 oh))
              (with_reducible first | assumption | exact ⟨p1, x0, x1⟩ | exact ⟨(Keep.refl w0).drew.cell p1, (Keep.refl w0).drew.cell x0, (Keep.refl w0).drew.cell x1⟩ | exact ⟨Q1.cell p1, Q1.cell x0, Q1.cell x1⟩)
              (first
                | (go_at_call 21; refine (OH _).mono ?_; rintro x y ⟨rfl, rfl⟩)
                | (go_at_call 22; refine (HLK.out _ (Keep.refl w0).drew).mono ?_; rintro x y ⟨rfl, qq⟩; have Q1 : Keep w0 y := (Keep.refl w0).drew.trans qq))
            go_wp2_with fail
            go_meet
            case rel => rw [hon]; exact ⟨rfl, Q1⟩
          | false =>
            rw [hon] at OH
            go_quiet ((go_at_call 21; with_reducible refine Calls.quiet_of_same (OH _)))
            go_wp2_with fail
            go_meet
            case rel => rw [hon]; exact ⟨rfl, (Keep.refl _).drewN _⟩
        case rest =>
          obtain ⟨rfl, kx⟩ := hcut
          have X2 := HX.out _ (kw.trans kx)
          have y0 := X2.c0
          have y1 := X2.c1
          have y2 := X2.c2
          have y3 := X2.c3
          have y4 := X2.c4
          have y5 := X2.c5
          have y6 := X2.c6
          have y7 := X2.c7
          have y8 := X2.c8
          have y9 := X2.c9
          simp only at y0 y1 y2 y3 y4 y5 y6 y7 y8 y9
          have HWx := Hid.mk (HW.out.keep kx)
          have PC := HPC.out _ _ HWx.out
          clear X2 x0 x1 p1 HPC HLK OH
          go_wp2_with fail
          refine PC.mono ?_
          rintro e w3 ⟨v, fp', rfl, dv, W3, st⟩
          have HRn : Hid (∀ x, x = S' → WW w1.heap.size fp' w3 gw gf gt x) := Hid.mk (fun x hx => by rw [hx]; exact W3)
          have kz := Stp.keepB (kw.trans kx) HWx.out (Nat.le_refl _) st
          clear dv W3 st PC
          by_cases her : er = 1
          · subst her
            go_wp2_with fail
            go_roundg (gk - 1)
            case measure => have := HK.out; omega
            case rel => exact ⟨k + 1, fp', by have := HK.out; omega, by go_num, HRn.out _ RS.out, kz⟩
          · have q1 : (er != 1) = true := by simpa using her
            have q2 : (onH okd && !vo) = false := by
              cases h1 : onH okd with
              | false => rfl
              | true =>
                cases h2 : vo with
                | true => rfl
                | false => exact absurd (HBD.out h1 h2) her
            rw [q2]
            clear her
            go_wp2_with fail
            go_roundg (gk - 1)
            case measure => have := HK.out; omega
            case rel => exact ⟨k + 1, fp', by have := HK.out; omega, by go_num, HRn.out _ RS.out, kz⟩
      · have i1 : ¬ (k : Int) < ss.length := by omega
        clear W_ HW2
        go_wp2_with fail
        go_ret
        exact ⟨rfl, k1.trans kw⟩
end Go.Proofs.Qxb6500767a
