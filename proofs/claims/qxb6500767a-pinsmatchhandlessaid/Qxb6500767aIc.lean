/- PinsMatchHandles. -/
import Derived.Test.Qxb6500767aIa
import Derived.Test.Qxb6500767aIb
import Derived.Test.Qxb6500767aHb
namespace Go.Proofs.Qxb6500767a
open Go.RowKit Go.Qm
set_option linter.unusedVariables false
set_option linter.unusedSimpArgs false
attribute [local go_sem ↓] Go.wp_at_zero Go.wp_at_succ
theorem s67 : (Try.prog.info? 67).map (·.size) = some 7 := by kernel_rfl
theorem clsS_bit (s : Stt) (n : Nat) (hn : n < 32) {j : Nat} (hj : j < 32) : (clsS s n).u.testBit j = (s.u.testBit j && !decide (n = j)) := by
  cases hb : s.u.testBit n with
  | false =>
    rw [clsS_shut hn hb]
    by_cases e : n = j
    · subst e; rw [hb]; rfl
    · rw [decide_eq_false e]; simp
  | true =>
    have hg : getOK s.u s.hs (n : Int) 0 = true := by
      rw [getOK_zero]; unfold opn; rw [Int.toNat_natCast, hb, decide_eq_true (by omega), decide_eq_true (by omega)]; rfl
    unfold clsS clsF
    rw [if_neg (by rw [hg]; decide)]
    simp only [Int.toNat_natCast]
    rw [clr_bit hn hj]
theorem clN_bit (s : Stt) : ∀ n, n ≤ 32 → ∀ j, j < 32 → (clN s n).u.testBit j = (s.u.testBit j && !decide (j < n))
  | 0, _, j, _ => by
    show s.u.testBit j = _
    rw [decide_eq_false (by omega)]; simp
  | n + 1, hn, j, hj => by
    rw [clN_succ, clsS_bit _ _ (by omega) hj, clN_bit s n (by omega) j hj]
    by_cases e : n = j
    · subst e; simp
    · rw [decide_eq_false e]
      by_cases h : j < n
      · rw [decide_eq_true h, decide_eq_true (show j < n + 1 by omega)]; simp
      · rw [decide_eq_false h, decide_eq_false (show ¬ j < n + 1 by omega)]; simp
theorem clN_zero {k : Nat} {s : Stt} (si : SI k s.u s.hs s.T) : (clN s 32).u = 0 := by
  have h1 := (clN_si si 32).h.lt
  apply Nat.eq_of_testBit_eq
  intro j
  rw [Nat.zero_testBit]
  by_cases hj : j < 32
  · rw [clN_bit s 32 (Nat.le_refl _) j hj, decide_eq_true hj]; simp
  · exact Nat.testBit_lt_two_pow (Nat.lt_of_lt_of_le h1 (Nat.pow_le_pow_right (by omega) (by omega)))
/-- The states of the law. -/
noncomputable def stN (ss : List OpV) (k : Nat) : Stt := if k ≤ ss.length then runS ss k else clN (runS ss ss.length) 32
theorem stN_si (ss : List OpV) (k : Nat) : SI ss.length (stN ss k).u (stN ss k).hs (stN ss k).T := by
  unfold stN
  split
  · next h => exact (run_si ss k h).more h
  · exact clN_si (run_si ss ss.length (Nat.le_refl _)) 32
theorem look_opn2 (u : Nat) (hs : List Hd) (h : Int) : (lookF u hs h).opn = opn u h := by
  unfold lookF; cases e : opn u h <;> simp [vw0]
theorem look_hol (u : Nat) (hs : List Hd) {n : Nat} (hn : n < 32) (i : Nat) : ((lookF u hs (n : Nat)).opn = u.testBit n) ∧ ((lookF u hs (n : Nat)).opn = true → (lookF u hs (n : Nat)).node = (hat hs n).node) := by
  have ho : opn u (n : Int) = u.testBit n := by unfold opn; rw [decide_eq_true (by omega), decide_eq_true (by omega)]; simp
  constructor
  · rw [look_opn2, ho]
  · intro h
    rw [look_opn2] at h
    unfold lookF
    rw [if_pos h, Int.toNat_natCast]
set_option maxRecDepth 6000 in
set_option maxHeartbeats 16000000 in
theorem pins_c (v : Value) (ss : List OpV) (w : World) (h : Script w v ss) : Calls Try.prog 8 #[v] w fun e w' => e = .returned (.bool true) ∧ Keep w w' := by
  have SM := small_c v ss w h
  obtain ⟨av, cv, rfl, hac, hcm, hca⟩ := h
  unfold maxLen at hcm
  go_enter Try.func8, Try.ntmps8
  go_wp2_with fail
  refine SM.mono ?_
  rintro e w1 ⟨⟨b, rfl, hsm⟩, k1⟩
  cases b with
  | false =>
    go_wp2_with fail
    go_ret
    exact ⟨rfl, k1⟩
  | true =>
    obtain ⟨hlen, hnm⟩ := hsm rfl
    have HNM := Hid.mk hnm
    have HCA := Hid.mk hca
    clear hsm hnm hca SM
    go_wp2_with fail
    refine (newWorld_c w1).mono ?_
    rintro e w2 ⟨gw, gf, gt, fp, rfl, W2, k2, hgw⟩
    have HW2 : Hid (WW w1.heap.size fp w2 gw gf gt (stN ss 0)) := Hid.mk (by unfold stN; rw [if_pos (Nat.zero_le _)]; exact W2)
    clear W2
    go_wp2_with fail
    go_loopg [4] (ss.length + 1) (fun gk iv wr => ∃ (k : Nat) (fp : Nat → Prop), k + gk = ss.length + 1 ∧ iv = .int .i64 k ∧ WW w1.heap.size fp wr gw gf gt (stN ss k) ∧ Keep w1 wr)
    case atStart => exact ⟨0, fp, by omega, rfl, HW2.out, k2⟩
    case round =>
      clear HW2
      obtain ⟨k, f1, hk, rfl, W_, kw⟩ := hrel
      obtain ⟨g1, hg1⟩ : ∃ g1, g1 = gk := ⟨_, rfl⟩
      subst hg1
      have HK := Hid.mk hk
      clear hk
      by_cases hlt : k ≤ ss.length
      · have i1 : (k : Int) ≤ ss.length := by omega
        have i0 : (0 : Int) ≤ k := by omega
        have HW := Hid.mk W_
        have p1 : wr.cell? ⟨gw, 1, none⟩ = some (.pointer (some ⟨gf, 0, none⟩)) := W_.arr.cell 1
        clear W_
        obtain ⟨w0, hw0⟩ : ∃ w0, w0 = wr := ⟨_, rfl⟩
        subst hw0
        go_upto_if 23 with fail
        go_cut [34] from 23 to 34 (fun _ wx => ∃ fp1, WW w1.heap.size fp1 wx gw gf gt (stN ss (k + 1)) ∧ Keep w1 wx)
        case first =>
          by_cases hke : k = ss.length
          · have hs1 : stN ss (k + 1) = clN (stN ss k) 32 := by unfold stN; rw [if_neg (by omega), if_pos hlt, hke]
            have CA := closeAll_c HW.out.v (stN_si ss k)
            have HS1 := Hid.mk hs1
            subst hke
            clear hs1 hlt i1
            generalize stN ss ss.length = sk at *
            go_wp2_with fail
            refine CA.mono ?_
            rintro e w3 ⟨fp3, rfl, V3, st3⟩
            have HW3 := Hid.mk (HW.out.stp V3 st3)
            have k3 := Stp.keepB kw HW.out (Nat.le_refl _) st3
            clear V3 st3 CA
            go_wp2_with fail
            go_meet
            case rel => exact ⟨fp3, by rw [HS1.out]; exact HW3.out, k3⟩
          · have hlt2 : k < ss.length := by omega
            have i2 : (k : Int) < ss.length := by omega
            have i3 : ((k : Int) == ss.length) = false := by simp; omega
            obtain ⟨b, o, rfl, hop⟩ := HCA.out k hlt2
            have hnk := HNM.out ss[k] (List.getElem_mem hlt2)
            have hs1 : stN ss (k + 1) = (playF (stN ss k) ss[k]).2 := by
              have h1 : stN ss (k + 1) = runS ss (k + 1) := by unfold stN; rw [if_pos (by omega)]
              have h2 : stN ss k = runS ss k := by unfold stN; rw [if_pos hlt]
              rw [h1, h2, runS_succ hlt2]
            have RS := Hid.mk hs1
            have PC := play_c ss[k] HW.out (stN_si ss k) (by omega) (by omega) (by omega) (by omega)
            have X := hop.keep (k1.trans kw)
            unfold PlayP at PC
            clear hs1
            generalize stN ss k = S at *
            generalize ss[k] = op at *
            generalize playF S op = P at *
            obtain ⟨A, S'⟩ := P
            simp only at PC RS
            obtain ⟨okd, oh, ofl, omo, on, oo, owh, opp, op2, od⟩ := op
            unfold opC at PC
            simp only at PC
            have y0 := X.c0
            have y1 := X.c1
            have y2 := X.c2
            have y3 := X.c3
            have y4 := X.c4
            have y5 := X.c5
            have y6 := X.c6
            have y7 := X.c7
            have y8 := X.c8
            have y9 := X.c9
            simp only at y0 y1 y2 y3 y4 y5 y6 y7 y8 y9
            clear hop X hnk hke hlt i1
            go_wp2_with fail
            refine PC.mono ?_
            rintro e w3 ⟨v, fp', rfl, dv, W3, st⟩
            have HRn : Hid (∀ x, x = S' → WW w1.heap.size fp' w3 gw gf gt x) := Hid.mk (fun x hx => by rw [hx]; exact W3)
            have kz := Stp.keepB kw HW.out (Nat.le_refl _) st
            clear dv W3 st PC
            go_wp2_with fail
            go_meet
            case rel => exact ⟨fp', HRn.out _ RS.out, kz⟩
        case rest =>
          obtain ⟨f2, W3, k3⟩ := hcut
          have si := stN_si ss (k + 1)
          have HNX := Hid.mk (show stN ss (k + 1) = stN ss (k + 1) from rfl)
          obtain ⟨sx, hsx⟩ : ∃ sx, sx = stN ss (k + 1) := ⟨_, rfl⟩
          rw [← hsx] at W3 si
          have HSX := Hid.mk hsx
          have VC := views_c W3
          have HW3 := Hid.mk W3
          have HSI := Hid.mk si
          have hV : ∀ n (hn : n < 32), (viewsF sx.u sx.hs)[n]? = some (lookF sx.u sx.hs (n : Nat)) := fun n hn => viewsF_get hn
          have hVl := viewsF_length sx.u sx.hs
          have HV := Hid.mk hV
          generalize viewsF sx.u sx.hs = V at *
          have hsz : ((V.flatMap vwC).toArray).size = 192 := by rw [List.size_toArray, vw_len, hVl]
          have HVL := Hid.mk hVl
          clear HNX hsx W3 si hV HW p1 i1 i0 hVl
          go_wp2_with fail
          refine VC.mono ?_
          rintro e w4 ⟨rfl, k4⟩
          go_wp2_with (refine wpList_store_row (by rfl) 49 (.tmp 5) (.tmp 36) (by rfl) w4.heap.size (V.flatMap vwC).toArray (by rfl) (by rfl) 49 Try.zeroCells49 (heap_alloc_new w4 _) (by rw [hsz]; exact s49) (by rw [hsz]; kernel_rfl) (vw_ones _) ?_)
          have A5 : Arr ((w4.alloc (.cells Try.zeroCells49 49)).setRow w4.heap.size (V.flatMap vwC).toArray) w4.heap.size 49 (V.flatMap vwC) := by
            rw [zero49]; exact (Arr.new w4 49 _).row _
          have k5 : Keep w4 ((w4.alloc (.cells Try.zeroCells49 49)).setRow w4.heap.size (V.flatMap vwC).toArray) := ((Keep.refl w4).alloc _).setRow (Nat.le_refl _) _
          generalize (w4.alloc (.cells Try.zeroCells49 49)).setRow w4.heap.size (V.flatMap vwC).toArray = w5 at *
          generalize w4.heap.size = gT at *
          have HA5 := Hid.mk A5
          have HW5 := Hid.mk (HW3.out.keep (k4.trans k5))
          have k6 := k3.trans (k4.trans k5)
          clear A5 k4 k5 VC HW3 hsz k3
          go_loopg [6] sx.T.length (fun gk nv wr => ∃ (n : Nat), n + gk = sx.T.length ∧ nv = .int .i64 n ∧ Keep w5 wr)
          case atStart => exact ⟨0, by omega, rfl, Keep.refl _⟩
          case round =>
            obtain ⟨n, hnk, rfl, kn⟩ := hrel
            obtain ⟨g2, hg2⟩ : ∃ g2, g2 = gk := ⟨_, rfl⟩
            subst hg2
            have HNK := Hid.mk hnk
            have W6 := HW5.out.keep kn
            obtain ⟨bn, cap, t0, t1, t2, nodes⟩ := W6.v.tree.tr
            have q0 : wr.cell? ⟨gw, 0, none⟩ = some (.pointer (some ⟨gt, 0, none⟩)) := W6.arr.cell 0
            unfold maxLen at t2
            have HTL : Hid (sx.T.length ≤ 70000) := Hid.mk (by have := HSI.out.t.len; omega)
            by_cases hnl : n < sx.T.length
            · have i1 : (n : Int) < sx.T.length := by omega
              have i0 : (0 : Int) ≤ n := by omega
              obtain ⟨dv, ev, m0, m1, m2, m3, m4, m5, m6, bs, es⟩ := nodes n hnl
              obtain ⟨da, dc, rfl, -⟩ := bs.form
              obtain ⟨ea, ec', rfl, -⟩ := es
              generalize (at' sx.T n).data.length = dl at *
              generalize (at' sx.T n).edges.length = el at *
              have hop := HSI.out.h.op n
              have hkz := HSI.out.t.kz n
              have hA := HA5.out.keep kn
              have HA := Hid.mk hA
              generalize (at' sx.T n).kind = nkd at *
              generalize (at' sx.T n).mode = nmd at *
              generalize (at' sx.T n).links = nlk at *
              generalize (at' sx.T n).opens = nop at *
              generalize (at' sx.T n).par = npr at *
              have HOP := Hid.mk hop
              have HKZ := Hid.mk hkz
              clear nodes hop hkz hA W6 hnk
              obtain ⟨w6, hw6⟩ : ∃ w6, w6 = wr := ⟨_, rfl⟩
              subst hw6
              go_wp2_with fail
              go_loopg [7, 8] 32 (fun gk cv hv wr => ∃ (c hn : Nat), hn + gk = 32 ∧ cv = .int .i64 c ∧ hv = .int .i64 hn ∧ c = (List.range hn).countP (hol sx.u sx.hs n) ∧ wr = w6)
              case atStart => exact ⟨0, 0, by omega, rfl, rfl, rfl, rfl⟩
              case round =>
                obtain ⟨c, hn, hhk, rfl, rfl, hc, rfl⟩ := hrel
                have HHK := Hid.mk hhk
                have HC := Hid.mk hc
                have hcl : c ≤ 32 := by
                  have := List.countP_le_length (p := hol sx.u sx.hs n) (l := List.range hn)
                  rw [← hc, List.length_range] at this
                  omega
                by_cases hh : hn < 32
                · have j1 : (hn : Int) < 32 := by omega
                  have j0 : (0 : Int) ≤ hn := by omega
                  have hvn : hn < V.length := by rw [HVL.out]; exact hh
                  obtain ⟨c0, c1, -⟩ := HA.out.vget hvn
                  have hx := HV.out hn hh
                  rw [List.getElem?_eq_getElem hvn] at hx
                  have hx2 := Option.some.inj hx
                  obtain ⟨l1, l2⟩ := look_hol sx.u sx.hs hh n
                  rw [← hx2] at l1 l2
                  have hstep : (List.range (hn + 1)).countP (hol sx.u sx.hs n) = c + if hol sx.u sx.hs n hn = true then 1 else 0 := by
                    rw [List.range_succ, List.countP_append, ← hc, List.countP_cons, List.countP_nil]; omega
                  have hho : hol sx.u sx.hs n hn = (sx.u.testBit hn && (hat sx.hs hn).node == n) := rfl
                  rw [hho, ← l1] at hstep
                  have e3 : IntKind.i64.wrap ((c : Int) + 1) = (c : Int) + 1 := by rw [IntKind.wrap_i64] <;> omega
                  have HS := Hid.mk hstep
                  have HL2 := Hid.mk l2
                  generalize V[hn] = X at *
                  obtain ⟨x0, x1, x2, x3, x4, x5⟩ := X
                  simp only at c0 c1 HS HL2
                  clear hx hx2 l1 l2 hstep hho hc hhk
                  cases x0 with
                  | false =>
                    go_wp2_with fail
                    go_roundg (gk - 1)
                    case measure => have := HHK.out; omega
                    case rel => exact ⟨c, hn + 1, by have := HHK.out; omega, rfl, by go_num, by rw [HS.out]; simp, rfl⟩
                  | true =>
                    have HE := Hid.mk (HL2.out rfl)
                    by_cases hxe : x1 = n
                    · subst hxe
                      go_wp2_with fail
                      go_roundg (gk - 1)
                      case measure => have := HHK.out; omega
                      case rel => exact ⟨c + 1, hn + 1, by have := HHK.out; omega, by go_num, by go_num, by rw [HS.out, ← HE.out]; simp, rfl⟩
                    · have z1 : ((x1 : Int) == (n : Int)) = false := by simp; omega
                      have HXE := Hid.mk hxe
                      clear hxe
                      go_wp2_with fail
                      go_roundg (gk - 1)
                      case measure => have := HHK.out; omega
                      case rel => exact ⟨c, hn + 1, by have := HHK.out; omega, rfl, by go_num, by rw [HS.out, ← HE.out]; simp [HXE.out], rfl⟩
                · have j1 : ¬ (hn : Int) < 32 := by omega
                  have h32 : hn = 32 := by omega
                  subst h32
                  have hcn : nop = c := by rw [HOP.out]; exact hc.symm
                  subst hcn
                  clear hc hhk
                  have z0 : ((nop : Int) != (nop : Int)) = false := by simp
                  rcases Nat.eq_zero_or_pos nkd with hk0 | hk0
                  · obtain ⟨e1, e2⟩ := HKZ.out.1 hk0
                    subst hk0 e1 e2
                    go_wp2_with fail
                    go_roundg (g2 - 1)
                    case measure => have := HNK.out; omega
                    case rel => exact ⟨n + 1, by have := HNK.out; omega, by go_num, kn.alloc _⟩
                  · have z1 : ((nkd : Int) != 0) = true := by simp; omega
                    rcases Nat.eq_zero_or_pos nlk with hl0 | hl0
                    · have hop0 : 0 < nop := by
                        rcases Nat.eq_zero_or_pos nop with a | a
                        · have := HKZ.out.2 ⟨hl0, a⟩; omega
                        · exact a
                      have z4 : decide (0 < nop) = true := decide_eq_true hop0
                      have z5 : (!decide (0 < nop)) = false := by rw [z4]; rfl
                      subst hl0
                      clear hk0
                      go_wp2_with fail
                      go_roundg (g2 - 1)
                      case measure => have := HNK.out; omega
                      case rel => exact ⟨n + 1, by have := HNK.out; omega, by go_num, kn.alloc _⟩
                    · have z3 : (0 : Int) < nlk := by omega
                      clear hl0 hk0
                      go_wp2_with fail
                      go_roundg (g2 - 1)
                      case measure => have := HNK.out; omega
                      case rel => exact ⟨n + 1, by have := HNK.out; omega, by go_num, kn.alloc _⟩
            · have i1 : ¬ (n : Int) < sx.T.length := by omega
              clear nodes hnk W6
              have HW7 := Hid.mk (HW5.out.keep kn)
              go_wp2_with fail
              go_roundg (g1 - 1)
              case measure => have := HK.out; omega
              case rel => exact ⟨k + 1, f2, by have := HK.out; omega, by go_num, by rw [← HSX.out]; exact HW7.out, k6.trans kn⟩
      · have i1 : ¬ (k : Int) ≤ ss.length := by omega
        have hu0 : (stN ss k).u = 0 := by
          unfold stN; rw [if_neg hlt]; exact clN_zero (run_si ss ss.length (Nat.le_refl _))
        have OC := openCount_c gf gt (stN ss k).u (stN ss k).hs wr W_.v.fs
        rw [hu0, pc_zero] at OC
        have p1 : wr.cell? ⟨gw, 1, none⟩ = some (.pointer (some ⟨gf, 0, none⟩)) := W_.arr.cell 1
        clear W_ hu0 hlt
        go_wp2_with fail
        refine OC.mono ?_
        rintro e w9 ⟨rfl, rfl⟩
        go_wp2_with fail
        go_ret
        exact ⟨rfl, k1.trans kw⟩
end Go.Proofs.Qxb6500767a
