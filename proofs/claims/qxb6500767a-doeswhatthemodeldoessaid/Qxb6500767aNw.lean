/- unionvfslaw: the real layer and the model side by side. -/
import Derived.Test.Qxb6500767aNv
import Derived.Test.Qxb6500767aNu
import Derived.Test.Qxb6500767aSmall
import Derived.Test.Qxb6500767aJf
import Derived.Test.Qxb6500767aVe
import Derived.Deep.RegionHeld3
namespace Go.Proofs.Qxb6500767a
open Go.RowKit Go.Qm
set_option linter.unusedVariables false
set_option linter.unusedSimpArgs false
attribute [local go_sem ↓] Go.wp_at_zero Go.wp_at_succ
theorem WW.fr {B gw gf gt : Nat} {fp : Nat → Prop} {w w' : World} {s : Stt} {P : Nat → Prop} (h : WW B fp w gw gf gt s) (k : Fr P w w') (hp : ∀ q, (fpV fp gf q ∨ q = gw) → ¬ P q) : WW B fp w' gw gf gt s :=
  ⟨⟨h.v.tree.fr k (fun q a => hp q (Or.inl (Or.inl a))), ⟨k.arr (hp gf (Or.inl (Or.inr rfl))) h.v.fs.arr, h.v.fs.len, h.v.fs.lt⟩, h.v.nfp, h.v.lo⟩, k.arr (hp gw (Or.inr rfl)) h.arr, h.nfp⟩
theorem Keep.ofFr {w0 w w' : World} {P : Nat → Prop} (k : Keep w0 w) (f : Fr P w w') (hP : ∀ q, P q → w0.heap.size ≤ q) : Keep w0 w' :=
  ⟨f.os.trans k.os, f.tape.trans k.tape, f.output.trans k.output, Nat.le_trans k.size f.size, fun q hq => (f.block q (Nat.lt_of_lt_of_le hq k.size) (fun a => by have := hP q a; omega)).trans (k.block q hq)⟩
/-- The two worlds. -/
structure Tw (w1 : World) (B2 : Nat) (f1 f2 : Nat → Prop) (w : World) (gw gf gt gm gt2 : Nat) (sR sM : Stt) (O : List Nat) (ov : Value) : Prop where
  R : WW w1.heap.size f1 w gw gf gt sR
  M : MW B2 f2 w gm gt2 sM O ov
  dj : ∀ q, (fpV f1 gf q ∨ q = gw) → ¬ fpM f2 gm ov q
  kp : Keep w1 w
  b2 : w1.heap.size ≤ B2
section
variable {w1 : World} {B2 : Nat} {f1 f2 f1' f2' : Nat → Prop} {w w' : World} {gw gf gt gm gt2 : Nat} {sR sM sR' sM' : Stt} {O O' : List Nat} {ov ov' : Value}
theorem Tw.keep (h : Tw w1 B2 f1 f2 w gw gf gt gm gt2 sR sM O ov) (k : Keep w w') : Tw w1 B2 f1 f2 w' gw gf gt gm gt2 sR sM O ov := ⟨h.R.keep k, h.M.keep k, h.dj, h.kp.trans k, h.b2⟩
theorem Tw.rlt (h : Tw w1 B2 f1 f2 w gw gf gt gm gt2 sR sM O ov) {q : Nat} (hq : fpV f1 gf q ∨ q = gw) : q < w.heap.size := by
  rcases hq with a | a
  · exact h.R.v.flt a
  · rw [a]; exact h.R.arr.lt
theorem Tw.step1 (h : Tw w1 B2 f1 f2 w gw gf gt gm gt2 sR sM O ov) (R' : WW w1.heap.size f1' w' gw gf gt sR') (st : Stp (fpV f1 gf) (fpV f1' gf) w w') : Tw w1 B2 f1' f2 w' gw gf gt gm gt2 sR' sM O ov := by
  refine ⟨R', h.M.fr st.1 (fun q hq a => h.dj q (Or.inl a) hq), ?_, Stp.keepB h.kp h.R (Nat.le_refl _) st, h.b2⟩
  intro q hq hm
  rcases hq with a | a
  · rcases st.2 q a with b | b
    · exact h.dj q (Or.inl b) hm
    · have := (h.M.flt hm).2; omega
  · exact h.dj q (Or.inr a) hm
theorem Tw.step2 (h : Tw w1 B2 f1 f2 w gw gf gt gm gt2 sR sM O ov) (M' : MW B2 f2' w' gm gt2 sM' O' ov') (st : Stp (fpM f2 gm ov) (fpM f2' gm ov') w w') : Tw w1 B2 f1 f2' w' gw gf gt gm gt2 sR sM' O' ov' := by
  refine ⟨h.R.fr st.1 (fun q hq a => h.dj q hq a), M', ?_, Keep.ofFr h.kp st.1 (fun q a => Nat.le_trans h.b2 (h.M.flt a).1), h.b2⟩
  intro q hq hm
  rcases st.2 q hm with b | b
  · exact h.dj q hq b
  · have := h.rlt hq; omega
end
theorem run_fl {ss : List OpV} (hr : ∀ s ∈ ss, OpR s) : ∀ k, k ≤ ss.length → FL (runS ss k).hs
  | 0, _ => fl0
  | k + 1, h => by
    rw [runS_succ (by omega)]
    exact play_fl (run_fl hr k (by omega)) (run_si ss k (by omega)) (hr _ (List.getElem_mem _)).1
theorem run_md {ss : List OpV} (hr : ∀ s ∈ ss, OpR s) : ∀ k, k ≤ ss.length → Md.SPM (runS ss k).T
  | 0, _ => Md.spm0
  | k + 1, h => by
    rw [runS_succ (by omega)]
    exact Md.play_spm (run_md hr k (by omega)) (hr _ (List.getElem_mem _)).2
set_option maxRecDepth 6000 in
set_option maxHeartbeats 16000000 in
theorem model_c (v : Value) (ss : List OpV) (w : World) (h : Script w v ss) (hr : ∀ s ∈ ss, OpR s) : Calls Try.prog 3 #[v] w fun e w' => e = .returned (.bool true) ∧ Keep w w' := by
  have SM := small_c v ss w h
  have HSPM := Hid.mk (run_spm (fun s hs => (hr s hs).2))
  have HFL := Hid.mk (run_fl hr)
  have HMD := Hid.mk (run_md hr)
  have HR := Hid.mk hr
  clear hr
  obtain ⟨av, cv, rfl, hac, hcm, hca⟩ := h
  unfold maxLen at hcm
  go_enter Try.func3, Try.ntmps3
  go_wp2_with fail
  refine SM.mono ?_
  rintro e w1 ⟨⟨b, rfl, hsm⟩, k1⟩
  cases b with
  | false =>
    go_wp2_with fail
    go_ret
    exact ⟨rfl, k1⟩
  | true =>
    obtain ⟨hlen, hnm⟩ := hsm rfl
    have HNM := Hid.mk hnm
    have HCA := Hid.mk hca
    clear hsm hnm hca SM
    go_wp2_with fail
    refine (newWorld_c w1).mono ?_
    rintro e w2 ⟨gw, gf, gt, fp, rfl, W2, k2, hgw⟩
    have HW2 := Hid.mk W2
    have HK2 := Hid.mk k2
    clear W2 k2
    go_wp2_with fail
    refine (mNew_c w2).mono ?_
    rintro e w3 ⟨gm, gt2, fp2, rfl, M3, k3⟩
    have T3 : Tw w1 w2.heap.size fp fp2 w3 gw gf gt gm gt2 (runS ss 0) (runS ss 0) [] (.slice none 0 0) := ⟨HW2.out.keep k3, M3, fun q hq hm => by
      have h1 := (M3.flt hm).1
      rcases hq with a | a
      · have := HW2.out.v.flt a; omega
      · have := HW2.out.arr.lt; omega, HK2.out.trans k3, HK2.out.size⟩
    have HT3 := Hid.mk T3
    clear T3 M3 k3
    generalize w2.heap.size = B2 at *
    go_wp2_with fail
    go_loopg [5] ss.length (fun gk iv wr => ∃ (k : Nat) (fA fB : Nat → Prop) (O : List Nat) (ov : Value), k + gk = ss.length ∧ iv = .int .i64 k ∧ Tw w1 B2 fA fB wr gw gf gt gm gt2 (runS ss k) (runS ss k) O ov)
    case atStart => exact ⟨0, fp, fp2, [], _, by omega, rfl, HT3.out⟩
    case round =>
      clear HT3 HW2 HK2
      obtain ⟨k, fA, fB, O, ov, hk, rfl, T⟩ := hrel
      obtain ⟨g1, hg1⟩ : ∃ g1, g1 = gk := ⟨_, rfl⟩
      subst hg1
      have HK := Hid.mk hk
      have HT := Hid.mk T
      clear hk
      by_cases hlt : k < ss.length
      · have i1 : (k : Int) < ss.length := by omega
        have i0 : (0 : Int) ≤ k := by omega
        obtain ⟨b, o, rfl, hop⟩ := HCA.out k hlt
        have hnk := HNM.out ss[k] (List.getElem_mem hlt)
        have RS : Hid (runS ss (k + 1) = (playF (runS ss k) ss[k]).2) := Hid.mk (runS_succ hlt)
        have si := run_si ss k (by omega)
        have HP1 := Hid.mk (fun f W (hW : WW w1.heap.size f W gw gf gt (runS ss k)) => play_c ss[k] hW si (by omega) (by omega) (by omega) (by omega))
        have HP2 := Hid.mk (fun f O ov W (hM : MW B2 f W gm gt2 (runS ss k) O ov) => mplay_c ss[k] hM si (by omega) (by omega) (by omega) (by omega) (HFL.out k (by omega)) (HMD.out k (by omega)) (HR.out ss[k] (List.getElem_mem hlt)))
        have HOT := Hid.mk (fun W (kk : Keep w1 W) => hop.keep (k1.trans kk))
        have O0 := HOT.out _ T.kp
        unfold PlayP at HP1
        unfold MP at HP2
        generalize runS ss k = S at *
        generalize ss[k] = op at *
        generalize playF S op = P at *
        obtain ⟨A, S'⟩ := P
        simp only at HP1 HP2 RS
        obtain ⟨okd, oh, ofl, omo, on, oo, owh, opp, op2, od⟩ := op
        have HSA := Hid.mk (fun v1 v2 W B1 B3 (d1 : DirO B1 W v1 A.page) (d2 : DirO B3 W v2 A.page) => same_c A v1 v2 W d1 d2)
        obtain ⟨x0, x1, x2, x3, x4, x5, x6, x7, x8, x9, -, -, -⟩ := O0
        simp only at x0 x1 x2 x3 x4 x5 x6 x7 x8 x9
        simp only [opC] at HP1 HP2
        clear hop si hnk T
        obtain ⟨w0, hw0⟩ : ∃ w0, w0 = wr := ⟨_, rfl⟩
        subst hw0
        have HC : Hid (∀ W : World, Keep w1 W → W.cell? ⟨b, o + k * 10, none⟩ = some (.int .i64 okd) ∧ W.cell? ⟨b, o + k * 10 + 1, none⟩ = some (.int .i64 oh) ∧ W.cell? ⟨b, o + k * 10 + 2, none⟩ = some (.int .i64 ofl) ∧ W.cell? ⟨b, o + k * 10 + 3, none⟩ = some (.int .i64 omo) ∧ W.cell? ⟨b, o + k * 10 + 4, none⟩ = some (.int .i64 on) ∧ W.cell? ⟨b, o + k * 10 + 5, none⟩ = some (.int .i64 oo) ∧ W.cell? ⟨b, o + k * 10 + 6, none⟩ = some (.int .i64 owh) ∧ W.cell? ⟨b, o + k * 10 + 7, none⟩ = some (str opp) ∧ W.cell? ⟨b, o + k * 10 + 8, none⟩ = some (str op2) ∧ W.cell? ⟨b, o + k * 10 + 9, none⟩ = some (str od)) := Hid.mk (fun W kk => ⟨(HOT.out W kk).c0, (HOT.out W kk).c1, (HOT.out W kk).c2, (HOT.out W kk).c3, (HOT.out W kk).c4, (HOT.out W kk).c5, (HOT.out W kk).c6, (HOT.out W kk).c7, (HOT.out W kk).c8, (HOT.out W kk).c9⟩)
        go_upto_region 8 with fail
        go_region_held3 (fun W : World => W.cell? ⟨b, o + k * 10, none⟩ = some (.int .i64 okd) ∧ W.cell? ⟨b, o + k * 10 + 1, none⟩ = some (.int .i64 oh) ∧ W.cell? ⟨b, o + k * 10 + 2, none⟩ = some (.int .i64 ofl) ∧ W.cell? ⟨b, o + k * 10 + 3, none⟩ = some (.int .i64 omo) ∧ W.cell? ⟨b, o + k * 10 + 4, none⟩ = some (.int .i64 on) ∧ W.cell? ⟨b, o + k * 10 + 5, none⟩ = some (.int .i64 oo) ∧ W.cell? ⟨b, o + k * 10 + 6, none⟩ = some (.int .i64 owh) ∧ W.cell? ⟨b, o + k * 10 + 7, none⟩ = some (str opp) ∧ W.cell? ⟨b, o + k * 10 + 8, none⟩ = some (str op2) ∧ W.cell? ⟨b, o + k * 10 + 9, none⟩ = some (str od))
          (with_reducible first | assumption | exact ⟨x0, x1, x2, x3, x4, x5, x6, x7, x8, x9⟩ | exact HC.out _ T8.kp | exact HC.out _ T7.kp | exact HC.out _ T6.kp | exact HC.out _ T5.kp | exact HC.out _ HT.out.kp.drew)
          (first
            | (go_at_call 14; refine (HP1.out _ _ (HT.out.R.keep (Keep.refl w0).drew)).mono ?_; rintro e w5 ⟨v1, f4, rfl, ev1, W5, st5⟩; have T5 := (HT.out.keep (Keep.refl w0).drew).step1 W5 st5)
            | (go_at_call 15; refine (HP2.out _ _ _ _ T5.M).mono ?_; rintro e w6 ⟨v2, f5, O2, ov2, rfl, ev2, M6, st6⟩; have T6 := T5.step2 M6 st6; have ev3 : DirO w0.heap.size w6 v1 A.page := ev1.fr st6.1 (fun q hq a => by have e1 : w0.heap.size ≤ q := (ev1.lt q hq).1; have e2 := (HT.out.M.flt a).2; omega))
            | (go_at_call 13; refine (HSA.out v1 v2 w6 _ _ ev3 ev2).mono ?_; rintro e w7 ⟨rfl, q3⟩; have T7 := T6.keep q3)
            | (go_at_call 16; refine (sameHandles_c T7.R T7.M).mono ?_; rintro e w8 ⟨rfl, q4⟩; have T8 := T7.keep q4))
        go_wp2_with fail
        go_roundg (g1 - 1)
        case measure => have := HK.out; omega
        case rel => exact ⟨k + 1, f4, f5, O2, ov2, by have := HK.out; omega, by go_num, by rw [RS.out]; exact T8⟩
      · have i1 : ¬ (k : Int) < ss.length := by omega
        have hkk : k ≤ ss.length := by have := HK.out; omega
        have hdb := db_of (run_si ss k hkk) (by omega) (HSPM.out k hkk)
        have HD1 := Hid.mk (fun W (kk : Keep wr W) => dump_c gt (runS ss k).T W (T.R.v.tree.tr.keep kk) hdb)
        have HD2 := Hid.mk (fun W (kk : Keep wr W) => dump_c gt2 (runS ss k).T W (T.M.tree.tr.keep kk) hdb)
        have p0 : wr.cell? ⟨gw, 0, none⟩ = some (.pointer (some ⟨gt, 0, none⟩)) := T.R.arr.cell 0
        have p1 : wr.cell? ⟨gm, 0, none⟩ = some (.pointer (some ⟨gt2, 0, none⟩)) := T.M.arr.cell 0
        generalize dumpF (runS ss k).T = DM at *
        have q1 : (DM == DM) = true := by simp
        have HPP : Hid (∀ W : World, Keep wr W → W.cell? ⟨gw, 0, none⟩ = some (.pointer (some ⟨gt, 0, none⟩)) ∧ W.cell? ⟨gm, 0, none⟩ = some (.pointer (some ⟨gt2, 0, none⟩))) := Hid.mk (fun W kk => ⟨kk.cell p0, kk.cell p1⟩)
        have HKP := Hid.mk T.kp
        obtain ⟨w0, hw0⟩ : ∃ w0, w0 = wr := ⟨_, rfl⟩
        subst hw0
        clear T hdb HT
        go_upto_region 10 with fail
        refine regionD_c gw gt gm gt2 DM (by rfl) (by rfl) (by rfl) p0 p1 HD1.out HD2.out ?_
        intro w9 k9
        have HK9 := Hid.mk k9
        clear p0 p1 k9
        simp only [lay, oDL, List.foldl, Act.put, List.setIfInBounds_toArray, List.set_cons_succ, List.set_cons_zero]
        go_wp2_with fail
        go_ret
        exact ⟨rfl, (k1.trans HKP.out).trans HK9.out⟩
end Go.Proofs.Qxb6500767a
