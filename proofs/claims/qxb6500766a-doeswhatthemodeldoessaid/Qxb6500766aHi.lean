/- HistoryChangesNoAnswer. -/
import Derived.Test.Qxb6500766aSmall
import Derived.Test.Qxb6500766aCb
import Derived.Deep.RegionHeld3
namespace Go.Proofs.Qxb6500766a
open Go.RowKit Go.Qm
set_option linter.unusedVariables false
set_option linter.unusedSimpArgs false
attribute [local go_sem ↓] Go.wp_at_zero Go.wp_at_succ
def wp2 (gs gc : Nat) : List Value := [.pointer (some ⟨gs, 0, none⟩), .pointer (some ⟨gc, 0, none⟩)]
/-- Two worlds side by side. -/
structure TW2 (w0 : World) (gs1 gc1 gw1 gs2 gc2 gw2 N : Nat) (R1 R2 : Sys) (fp1 fp2 : Nat → Prop) (W : World) : Prop where
  W1 : WW w0.heap.size fp1 W gs1 gc1 N R1
  W2 : WW w0.heap.size fp2 W gs2 gc2 N R2
  A1 : Arr W gw1 38 [.pointer (some ⟨gs1, 0, none⟩), .pointer (some ⟨gc1, 0, none⟩)]
  A2 : Arr W gw2 38 [.pointer (some ⟨gs2, 0, none⟩), .pointer (some ⟨gc2, 0, none⟩)]
  n11 : ¬ fp1 gw1
  n12 : ¬ fp1 gw2
  n21 : ¬ fp2 gw1
  n22 : ¬ fp2 gw2
  dj : ∀ q, fp1 q → ¬ fp2 q
  kp : Keep w0 W
section
variable {w0 W W' : World} {gs1 gc1 gw1 gs2 gc2 gw2 N M : Nat} {R1 R2 R' : Sys} {fp1 fp2 fp' : Nat → Prop}
theorem stp_not {fp fp' : Nat → Prop} {w w' : World} (st : Stp fp fp' w w') {q : Nat} (hq : q < w.heap.size) (h : ¬ fp q) : ¬ fp' q := fun a => (st.2 q a).elim h (fun b => by omega)
theorem TW2.step1 (T : TW2 w0 gs1 gc1 gw1 gs2 gc2 gw2 N R1 R2 fp1 fp2 W) (st : Stp fp1 fp' W W') (W1' : WW w0.heap.size fp' W' gs1 gc1 M R') (hM : N ≤ M) : TW2 w0 gs1 gc1 gw1 gs2 gc2 gw2 M R' R2 fp' fp2 W' :=
  ⟨W1', (T.W2.fr st.1 (fun q hq a => T.dj q a hq)).le hM, T.A1.fpS T.n11 st, T.A2.fpS T.n12 st, stp_not st T.A1.lt T.n11, stp_not st T.A2.lt T.n12, T.n21, T.n22, fun q a b => (st.2 q a).elim (fun c => T.dj q c b) (fun c => by have := (T.W2.lo b).2; omega), st.keepB T.kp T.W1 (Nat.le_refl _)⟩
theorem TW2.step2 (T : TW2 w0 gs1 gc1 gw1 gs2 gc2 gw2 N R1 R2 fp1 fp2 W) (st : Stp fp2 fp' W W') (W2' : WW w0.heap.size fp' W' gs2 gc2 M R') (hM : N ≤ M) : TW2 w0 gs1 gc1 gw1 gs2 gc2 gw2 M R1 R' fp1 fp' W' :=
  ⟨(T.W1.fr st.1 (fun q hq a => T.dj q hq a)).le hM, W2', T.A1.fpS T.n21 st, T.A2.fpS T.n22 st, T.n11, T.n12, stp_not st T.A1.lt T.n21, stp_not st T.A2.lt T.n22, fun q a b => (st.2 q b).elim (fun c => T.dj q a c) (fun c => by have := (T.W1.lo a).2; omega), st.keepB T.kp T.W2 (Nat.le_refl _)⟩
theorem TW2.keep (T : TW2 w0 gs1 gc1 gw1 gs2 gc2 gw2 N R1 R2 fp1 fp2 W) (k : Keep W W') : TW2 w0 gs1 gc1 gw1 gs2 gc2 gw2 N R1 R2 fp1 fp2 W' :=
  ⟨T.W1.keep k, T.W2.keep k, T.A1.keep k, T.A2.keep k, T.n11, T.n12, T.n21, T.n22, T.dj, T.kp.trans k⟩
end
set_option maxRecDepth 4000 in
set_option maxHeartbeats 4000000 in
theorem history_c (v : Value) (ss : List OpV) (w : World) (h : Script w v ss) : Calls Try.prog 4 #[v] w fun e w' => e = .returned (.bool true) ∧ Keep w w' := by
  have SM := small_c v ss w h
  obtain ⟨av, cv, rfl, hac, hcm, hca⟩ := h
  unfold maxLen at hcm
  go_enter Try.func4, Try.ntmps4
  go_wp2_with fail
  refine SM.mono ?_
  rintro e w1 ⟨⟨b, rfl, hsm⟩, k1⟩
  cases b with
  | false =>
    go_wp2_with fail
    go_ret
    exact ⟨rfl, k1⟩
  | true =>
    obtain ⟨hlen, hnm⟩ := hsm rfl
    have HNM := Hid.mk hnm
    have HCA := Hid.mk hca
    clear hsm hnm hca SM
    go_wp2_with fail
    refine (newW w1).mono ?_
    rintro e w2 ⟨gs1, gc1, gw1, fp1, rfl, W1, A1, n1, hg1, k2⟩
    go_wp2_with fail
    refine (newW w2).mono ?_
    rintro e w3 ⟨gs2, gc2, gw2, fp2, rfl, W2, A2, n2, hg2, k3⟩
    have TT : ∃ fp1 fp2, TW2 w1 gs1 gc1 gw1 gs2 gc2 gw2 0 (runS ss 0) (runS ss 0) fp1 fp2 w3 := by
      have l1 := A1.lt
      refine ⟨fp1, fp2, W1.keep k3, ?_, A1.keep k3, A2, n1, fun a => ?_, fun a => ?_, n2, fun q a c => ?_, k2.trans k3⟩
      · obtain ⟨ck, vs, sh, tl, G, hc, S, C, hf⟩ := W2.ex
        refine ⟨⟨ck, vs, sh, tl, G, hc, ⟨S.A, S.len, fun d l hd hl => ?_, S.ok⟩, ⟨C.A, C.len, C.tl, C.no, fun i t e => ⟨(C.ok i t e).1, ?_⟩, C.ap, C.ds⟩, hf⟩, Nat.le_trans k2.size W2.gsB, Nat.le_trans k2.size W2.gcB⟩
        · obtain ⟨u, hu, r⟩ := S.raw d l hd hl
          exact ⟨u, hu, r.mono k2.size⟩
        · have s := (C.ok i t e).2
          exact ⟨s.used, s.dir, s.d24, s.st0, s.st1, s.sv, s.live, s.dead, s.tab.mono k2.size⟩
      · have := (W1.lo a).2; omega
      · have := (W2.lo a).1; omega
      · have := (W1.lo a).2; have := (W2.lo c).1; omega
    have HTT := Hid.mk TT
    clear TT W1 W2 A1 A2 n1 n2
    go_wp2_with fail
    go_loopg [5] ss.length (fun gk iv wr => ∃ (k : Nat) (fp1 fp2 : Nat → Prop), k + gk = ss.length ∧ iv = .int .i64 k ∧ TW2 w1 gs1 gc1 gw1 gs2 gc2 gw2 (2 * k) (runS ss k) (runS ss k) fp1 fp2 wr)
    case atStart =>
      obtain ⟨f1, f2, T⟩ := HTT.out
      exact ⟨0, f1, f2, by omega, rfl, T⟩
    case round =>
      obtain ⟨k, f1, f2, hk, rfl, T⟩ := hrel
      have HK := Hid.mk hk
      clear hk
      by_cases hlt : k < ss.length
      · have i1 : (k : Int) < ss.length := by omega
        obtain ⟨b, o, rfl, hop⟩ := HCA.out k hlt
        have HOP := Hid.mk hop
        have hnk := HNM.out ss[k] (List.getElem_mem hlt)
        have RS : Hid (runS ss (k + 1) = (playF (runS ss k) ss[k]).2) := Hid.mk (runS_succ hlt)
        have hel := play_len T.W1 ss[k]
        have HEL := Hid.mk hel
        clear hop hel
        have a2 := Go.Qm.Arr.cell T.A2 1
        simp only [List.getElem?_cons_zero, List.getElem?_cons_succ] at a2
        go_wp2_with fail
        refine (dropAllW T.W2).mono ?_
        rintro e w4 ⟨f3, rfl, W2', st⟩
        have T2 := T.step2 st W2' (Nat.le_refl _)
        clear a2
        have PL1 := fun W f1 f2 (T : TW2 w1 gs1 gc1 gw1 gs2 gc2 gw2 (2 * k) (runS ss k) (runS ss k) f1 f2 W) => play_c ss[k] T.W1 T.A1 T.n11 (by omega) (by omega)
        have PL2 := fun W f1 f2 (T : TW2 w1 gs1 gc1 gw1 gs2 gc2 gw2 (2 * k + 1) (playF (runS ss k) ss[k]).2 (runS ss k) f1 f2 W) => play_c ss[k] T.W2 T.A2 T.n22 (by omega) (by omega)
        have HOT : Hid (∀ W f1 f2 N R1 R2, TW2 w1 gs1 gc1 gw1 gs2 gc2 gw2 N R1 R2 f1 f2 W → OpAt W b (o + k * 5) ss[k]) := Hid.mk (fun W f1 f2 N R1 R2 T => HOP.out.keep (k1.trans T.kp))
        generalize runS ss k = R at *
        generalize ss[k] = op at *
        generalize hP : playF R op = P at *
        clear hP
        obtain ⟨⟨er, ke, nn, es⟩, R'⟩ := P
        unfold PlayP at PL1 PL2
        simp only at PL1 PL2 HEL RS
        unfold opC at PL1 PL2
        have HP1 := Hid.mk PL1
        have HP2 := Hid.mk PL2
        clear PL1 PL2 hlen HTT
        have O4 := HOT.out _ _ _ _ _ _ T2
        have x0 := O4.c0
        have x1 := O4.c1
        have x2 := O4.c2
        have x3 := O4.c3
        have x4 := O4.c4
        clear O4
        go_wp2_with fail
        go_region_held3 (fun w' => w'.cell? ⟨b, o + k * 5, none⟩ = some (.int .i64 op.kind) ∧ w'.cell? ⟨b, o + k * 5 + 1, none⟩ = some (.int .i64 op.dir) ∧ w'.cell? ⟨b, o + k * 5 + 2, none⟩ = some (.int .i64 op.layer) ∧ w'.cell? ⟨b, o + k * 5 + 3, none⟩ = some (str op.name) ∧ w'.cell? ⟨b, o + k * 5 + 4, none⟩ = some (.int .i64 op.what))
          (first | exact ⟨q3.cell O6.c0, q3.cell O6.c1, q3.cell O6.c2, q3.cell O6.c3, q3.cell O6.c4⟩ | exact ⟨O6.c0, O6.c1, O6.c2, O6.c3, O6.c4⟩ | exact ⟨O5.c0, O5.c1, O5.c2, O5.c3, O5.c4⟩ | exact ⟨x0, x1, x2, x3, x4⟩)
          (first
          | ((fail_if_success have := T5); go_at_call 10; refine (HP1.out _ _ _ (T2.keep ((Keep.refl w4).drew))).mono ?_; rintro e w5 ⟨v1, f4, rfl, ev1, W5, st5⟩; have T5 := (T2.keep ((Keep.refl w4).drew)).step1 st5 W5 (Nat.le_succ _); have O5 := HOT.out _ _ _ _ _ _ T5)
          | (go_at_call 10; refine (HP2.out _ _ _ T5).mono ?_; rintro e w6 ⟨v2, f5, rfl, ev2, W6, st6⟩; have T6 := T5.step2 st6 W6 (Nat.le_succ _); have O6 := HOT.out _ _ _ _ _ _ T6; have ev3 := ev1.fr st6.1 (fun q hq a => (by have e1 := (ev1.lt q hq).1; have e2 := (T2.W2.lo a).2; exact absurd e2 (Nat.not_lt.2 e1))))
          | (go_at_call 15; refine (same_eq_c _ _ er nn ke v1 v2 es w6 ev3 ev2 (Nat.le_trans HEL.out (by omega))).mono ?_; rintro e w7 ⟨rfl, q3⟩; have T7 := T6.keep q3))
        go_wp2_with fail
        go_roundg (gk - 1)
        case measure => have := HK.out; omega
        case rel => exact ⟨k + 1, f4, f5, by have := HK.out; omega, by go_num, by rw [RS.out, show 2 * (k + 1) = 2 * k + 1 + 1 by omega]; exact T7⟩
      · have i1 : ¬ (k : Int) < ss.length := by omega
        go_wp2_with fail
        go_ret
        exact ⟨rfl, k1.trans T.kp⟩
end Go.Proofs.Qxb6500766a
