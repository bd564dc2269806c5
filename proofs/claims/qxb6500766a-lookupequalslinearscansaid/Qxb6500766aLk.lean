/- LookupEqualsLinearScan. -/
import Derived.Test.Qxb6500766aSc
import Derived.Test.Qxb6500766aCc
namespace Go.Proofs.Qxb6500766a
open Go.RowKit Go.Qm
set_option linter.unusedVariables false
set_option linter.unusedSimpArgs false
attribute [local go_sem ↓] Go.wp_at_zero Go.wp_at_succ
theorem scanW {B : Nat} {fp : Nat → Prop} {w : World} {gs gc N : Nat} {R : Sys} (d : Nat) (key : List UInt8) (h : WW B fp w gs gc N R) (hd : d < 24) :
    Calls Try.prog 12 #[.pointer (some ⟨gs, 0, none⟩), .int .i64 d, str key] w fun e w' => ScanP w (bear (R d) key) e w' := by
  obtain ⟨ck, vs, sh, tl, G, hc, S, C, hf⟩ := h.ex
  exact scan_c d key S hd
def AgrP (w0 : World) (gs gc gw : Nat) (R : Sys) (e : Ending) (w' : World) : Prop := ∃ N fp, e = .returned (.bool true) ∧ OneW w0 gs gc gw N R fp w'
set_option maxRecDepth 4000 in
set_option maxHeartbeats 4000000 in
theorem agrees_c (v : Value) (ss : List OpV) (w0 w : World) (gs gc gw : Nat) (R : Sys) (fp : Nat → Prop) (h : Script w0 v ss) (hlen : ss.length ≤ 65536) (hnm : ∀ s ∈ ss, s.name.length ≤ 65536) (w1 : World) (k1 : Keep w0 w1) (T : OneW w1 gs gc gw 65536 R fp w) :
    Calls Try.prog 13 #[.pointer (some ⟨gw, 0, none⟩), v] w fun e w' => AgrP w1 gs gc gw R e w' := by
  obtain ⟨av, cv, rfl, hac, hcm, hca⟩ := h
  unfold maxLen at hcm
  have HNM := Hid.mk hnm
  have HCA := Hid.mk hca
  clear hnm hca
  go_enter Try.func13, Try.ntmps13
  go_wp2_with fail
  go_loopg [5] ss.length (fun gk iv wr => ∃ (k : Nat) (fp1 : Nat → Prop), k + gk = ss.length ∧ iv = .int .i64 k ∧ OneW w1 gs gc gw (65536 + 24 * k) R fp1 wr)
  case atStart => exact ⟨0, fp, by omega, rfl, T⟩
  case round =>
    obtain ⟨k, f1, hk, rfl, T1⟩ := hrel
    have HK := Hid.mk hk
    clear hk T
    by_cases hlt : k < ss.length
    · have i1 : (k : Int) < ss.length := by omega
      obtain ⟨b, o, rfl, hop⟩ := HCA.out k hlt
      have c3 := (hop.keep (k1.trans T1.kp)).c3
      have hnk := HNM.out ss[k] (List.getElem_mem hlt)
      have KC := fun W => key_c ss[k].name W (by omega)
      generalize ss[k] = op at *
      clear hop
      go_wp2_with fail
      refine (KC _).mono ?_
      rintro e w2 ⟨hK, k2⟩
      have T2 := T1.keep k2
      rcases hK with ⟨hK, rfl⟩ | ⟨key, hK, rfl⟩
      · clear hK
        go_wp2_with fail
        go_roundg (gk - 1)
        case measure => have := HK.out; omega
        case rel => exact ⟨k + 1, f1, by have := HK.out; omega, by go_num, T2.le (by omega)⟩
      · have hkl := (keyF_some hK).2.1
        clear hK T1 c3 KC
        go_wp2_with fail
        obtain ⟨gO, hgO⟩ : ∃ g, g = gk := ⟨_, rfl⟩
        subst hgO
        obtain ⟨W0, hW0⟩ : ∃ W, W = wr := ⟨_, rfl⟩
        subst hW0
        go_loopg [8] 24 (fun gk dv wx => ∃ (d : Nat) (f : Nat → Prop), d + gk = 24 ∧ dv = .int .i64 d ∧ OneW w1 gs gc gw (65536 + 24 * k + d) R f wx)
        case atStart => exact ⟨0, f1, by omega, rfl, T2⟩
        case round =>
          obtain ⟨d, f, hd8, rfl, T3⟩ := hrel
          have HD8 := Hid.mk hd8
          clear hd8 T2
          by_cases hd : d < 24
          · have d1 : (d : Int) < 24 := by omega
            have a1 := Go.Qm.Arr.cell T3.A1 1
            simp only [List.getElem?_cons_zero, List.getElem?_cons_succ] at a1
            have LK := lookupW d key T3.W1 hd (by omega) (by omega)
            have DK := T3.W1.ok hd
            have hbl := bear_le DK.len key
            have HSC := Hid.mk (fun f N W (T : OneW w1 gs gc gw N R f W) => scanW d key T.W1 hd)
            generalize bear (R d) key = es at *
            go_wp2_with fail
            refine LK.mono ?_
            rintro e w4 ⟨v4, f4, rfl, ev, W4, st4⟩
            have T4 := T3.step st4 W4
            obtain ⟨a4, c4, rfl, hc4, hm4, -⟩ := ent_read ev
            have a2 := Go.Qm.Arr.cell T4.A1 0
            simp only [List.getElem?_cons_zero, List.getElem?_cons_succ] at a2
            have SC := HSC.out _ _ _ T4
            clear a1 T3 LK
            go_wp2_with fail
            refine SC.mono ?_
            rintro e w5 ⟨v5, rfl, ev5, k5⟩
            have T5 := T4.keep k5
            have SL := sameList_c _ _ _ _ es w5 (ev.keep k5) ev5 (by omega)
            obtain ⟨a5, c5, rfl, hc5, hm5, -⟩ := ent_read ev5
            clear a2 SC T4
            go_wp2_with fail
            refine SL.mono ?_
            rintro e w6 ⟨rfl, k6⟩
            have T6 := T5.keep k6
            go_wp2_with fail
            go_roundg (gk - 1)
            case measure => have := HD8.out; omega
            case rel => exact ⟨d + 1, f4, by have := HD8.out; omega, by go_num, T6⟩
          · have d1 : ¬ (d : Int) < 24 := by omega
            have hd24 : d = 24 := by have := HD8.out; omega
            have T4 := T3.le (M := 65536 + 24 * (k + 1)) (by omega)
            clear hd24
            go_wp2_with fail
            go_roundg (gO - 1)
            case measure => have := HK.out; omega
            case rel => exact ⟨k + 1, f, by have := HK.out; omega, by go_num, T4⟩
    · have i1 : ¬ (k : Int) < ss.length := by omega
      go_wp2_with fail
      go_ret
      exact ⟨_, _, rfl, T1⟩
theorem look_ok {R : Sys} {o : OpV} (h : (lookF R o).er = 0) : ∃ (d : Nat) (k : List UInt8), o.dir = d ∧ d < 24 ∧ k.length ≤ 4000 ∧ lookF R o = ⟨0, k, (bear (R d) k).length, bear (R d) k⟩ := by
  unfold lookF at h ⊢
  cases hk : keyF o.name with
  | none => rw [hk] at h; simp [ans] at h
  | some k =>
    rw [hk] at h
    simp only at h ⊢
    cases hd : dirB o.dir with
    | false => rw [hd, if_neg (by simp)] at h; simp [ans] at h
    | true =>
      obtain ⟨d, e, hd'⟩ := dirB_nat hd
      exact ⟨d, k, e, hd', (keyF_some hk).2.1, by rw [if_pos rfl, e, Int.toNat_natCast]⟩
theorem play_look {R : Sys} {o : OpV} (h : o.kind = 3) : playF R o = (lookF R o, R) := by
  unfold playF
  rw [if_neg (by omega), if_neg (by omega), if_pos h]
set_option maxRecDepth 4000 in
set_option maxHeartbeats 4000000 in
theorem lookScan_c (v : Value) (ss : List OpV) (w : World) (h : Script w v ss) : Calls Try.prog 3 #[v] w fun e w' => e = .returned (.bool true) ∧ Keep w w' := by
  have SM := small_c v ss w h
  have HSC := Hid.mk h
  obtain ⟨av, cv, rfl, hac, hcm, hca⟩ := h
  unfold maxLen at hcm
  go_enter Try.func3, Try.ntmps3
  go_wp2_with fail
  refine SM.mono ?_
  rintro e w1 ⟨⟨b, rfl, hsm⟩, k1⟩
  cases b with
  | false =>
    go_wp2_with fail
    go_ret
    exact ⟨rfl, k1⟩
  | true =>
    obtain ⟨hlen, hnm⟩ := hsm rfl
    have HNM := Hid.mk hnm
    have HCA := Hid.mk hca
    clear hsm hnm hca SM
    go_wp2_with fail
    refine (newW w1).mono ?_
    rintro e w2 ⟨gs, gc, gw, fp1, rfl, W1, A1, n1, hg1, k2⟩
    have TT : ∃ fp1, OneW w1 gs gc gw 0 (runS ss 0) fp1 w2 := ⟨fp1, W1, A1, n1, k2⟩
    have HTT := Hid.mk TT
    clear TT W1 A1 n1
    go_wp2_with fail
    go_loopg [4] ss.length (fun gk iv wr => ∃ (k : Nat) (fp1 : Nat → Prop), k + gk = ss.length ∧ iv = .int .i64 k ∧ OneW w1 gs gc gw k (runS ss k) fp1 wr)
    case atStart =>
      obtain ⟨f1, T⟩ := HTT.out
      exact ⟨0, f1, by omega, rfl, T⟩
    case round =>
      obtain ⟨k, f1, hk, rfl, T⟩ := hrel
      have HK := Hid.mk hk
      clear hk HTT
      by_cases hlt : k < ss.length
      · have i1 : (k : Int) < ss.length := by omega
        obtain ⟨b, o, rfl, hop⟩ := HCA.out k hlt
        have HOP := Hid.mk (fun W (kk : Keep w W) => hop.keep kk)
        have O4 := hop.keep (k1.trans T.kp)
        have hnk := HNM.out ss[k] (List.getElem_mem hlt)
        have RS : Hid (runS ss (k + 1) = (playF (runS ss k) ss[k]).2) := Hid.mk (runS_succ hlt)
        have PL1 := play_c ss[k] T.W1 T.A1 T.n1 (by omega) (by omega)
        have HLO := Hid.mk (fun h3 h0 => by rw [play_look (R := runS ss k) h3] at h0; exact look_ok (R := runS ss k) (o := ss[k]) h0 : ss[k].kind = 3 → (playF (runS ss k) ss[k]).1.er = 0 → _)
        have HPLK := Hid.mk (fun (h3 : ss[k].kind = 3) => play_look (R := runS ss k) (o := ss[k]) h3)
        clear hop
        generalize runS ss k = R at *
        generalize ss[k] = op at *
        unfold opC at PL1
        generalize playF R op = P at *
        obtain ⟨⟨er, ke, nn, es⟩, R'⟩ := P
        simp only at HLO HPLK RS
        have x0 := O4.c0
        have x1 := O4.c1
        have x2 := O4.c2
        have x3 := O4.c3
        have x4 := O4.c4
        clear O4
        go_wp2_with fail
        refine PL1.mono ?_
        rintro e w5 ⟨v1, f4, rfl, ev1, W5, st5⟩
        have T5 := T.step st5 W5
        simp only at ev1 T5
        obtain ⟨a5, c5, rfl, hc5, hm5, -⟩ := ent_read ev1
        have k6 := (Keep.refl w5).alloc (.cells #[.int .i64 er, str ke, .int .i64 nn, .slice a5 es.length c5] 29)
        have A6 := Arr.new w5 29 [.int .i64 er, str ke, .int .i64 nn, .slice a5 es.length c5]
        have T6 := T5.keep k6
        have ev6 := ev1.keep k6
        have gA : w5.heap.size < (w5.alloc (.cells #[.int .i64 er, str ke, .int .i64 nn, .slice a5 es.length c5] 29)).heap.size := A6.lt
        clear x0 x1 x2 x3 x4 T PL1
        go_upto_region 8 with fail
        generalize w5.alloc (.cells #[.int .i64 er, str ke, .int .i64 nn, .slice a5 es.length c5] 29) = w6 at *
        generalize w5.heap.size = g5 at *
        have OP6 := HOP.out w6 (k1.trans T6.kp)
        have y0 := OP6.c0
        have y1 := OP6.c1
        have a0 := Go.Qm.Arr.cell A6 0
        have a1 := Go.Qm.Arr.cell A6 1
        have a3 := Go.Qm.Arr.cell A6 3
        have g0 := Go.Qm.Arr.cell T6.A1 0
        simp only [List.getElem?_cons_zero, List.getElem?_cons_succ] at a0 a1 a3 g0
        clear OP6
        by_cases h3 : op.kind = 3
        · have t3 : (op.kind == 3) = true := by simpa using h3
          by_cases h0 : er = 0
          · have t0 : (er == 0) = true := by simpa using h0
            obtain ⟨d, key, e1, hd, hkl, e2⟩ := HLO.out h3 h0
            have e3 := HPLK.out h3
            rw [e2] at e3
            simp only [Prod.mk.injEq, AnsV.mk.injEq] at e3
            obtain ⟨⟨e4, e5, e6, e7⟩, e8⟩ := e3
            subst e5
            subst e8
            have hbl := bear_le (T6.W1.ok hd).len ke
            have HSC2 := Hid.mk (fun f N W (T : OneW w1 gs gc gw N R' f W) => scanW d ke T.W1 hd)
            have HE7 := Hid.mk e7
            rw [← e7] at hbl
            rw [e1] at y1
            clear h3 h0 e4 e6 e7 e2 e1
            go_region_held3 (fun w' => w'.cell? ⟨b, o + k * 5, none⟩ = some (.int .i64 op.kind) ∧ w'.cell? ⟨b, o + k * 5 + 1, none⟩ = some (.int .i64 (d : Int)) ∧ w'.cell? ⟨g5, 0, none⟩ = some (.int .i64 er) ∧ w'.cell? ⟨g5, 1, none⟩ = some (str ke) ∧ w'.cell? ⟨g5, 3, none⟩ = some (.slice a5 es.length c5) ∧ w'.cell? ⟨gw, 0, none⟩ = some (.pointer (some ⟨gs, 0, none⟩)))
              (first | exact ⟨q8.cell (q7.cell y0), q8.cell (q7.cell y1), q8.cell (q7.cell a0), q8.cell (q7.cell a1), q8.cell (q7.cell a3), q8.cell (q7.cell g0)⟩ | exact ⟨q7.cell y0, q7.cell y1, q7.cell a0, q7.cell a1, q7.cell a3, q7.cell g0⟩ | exact ⟨y0, y1, a0, a1, a3, g0⟩)
              (first
              | (go_at_call 12; refine (HSC2.out _ _ _ (T6.keep ((Keep.refl w6).drew))).mono ?_; rintro e w7 ⟨v7, rfl, ev7, q7⟩)
              | (go_at_call 11; refine (sameList_c _ _ _ _ es w7 (ev6.keep ((Keep.refl w6).drew.trans q7)) (by rw [HE7.out]; exact ev7) (by omega)).mono ?_; rintro e w8 ⟨rfl, q8⟩))
            have T8 := T6.keep (((Keep.refl w6).drew.trans q7).trans q8)
            go_wp2_with fail
            go_roundg (gk - 1)
            case measure => have := HK.out; omega
            case rel => exact ⟨k + 1, f4, by have := HK.out; omega, by go_num, by rw [RS.out]; exact T8⟩
          · have t0 : (er == 0) = false := by simpa using h0
            clear h3 h0
            go_quiet (fail)
            have T8 := T6.keep ((Keep.refl w6).drewN nq)
            go_wp2_with fail
            go_roundg (gk - 1)
            case measure => have := HK.out; omega
            case rel => exact ⟨k + 1, f4, by have := HK.out; omega, by go_num, by rw [RS.out]; exact T8⟩
        · have t3 : (op.kind == 3) = false := by simpa using h3
          clear h3
          go_quiet (fail)
          have T8 := T6.keep ((Keep.refl w6).drewN nq)
          go_wp2_with fail
          go_roundg (gk - 1)
          case measure => have := HK.out; omega
          case rel => exact ⟨k + 1, f4, by have := HK.out; omega, by go_num, by rw [RS.out]; exact T8⟩
      · have i1 : ¬ (k : Int) < ss.length := by omega
        have hkl : k ≤ 65536 := by have := HK.out; omega
        have AG := agrees_c _ ss w wr gs gc gw _ f1 HSC.out hlen HNM.out w1 k1 (T.le hkl)
        go_wp2_with fail
        refine AG.mono ?_
        rintro e w9 ⟨N, f9, rfl, T9⟩
        go_wp2_with fail
        go_ret
        exact ⟨rfl, k1.trans T9.kp⟩
end Go.Proofs.Qxb6500766a
