/- DoesWhatTheModelDoes. -/
import Derived.Test.Qxb6500766aMh
import Derived.Test.Qxb6500766aMi
import Derived.Test.Qxb6500766aHi
namespace Go.Proofs.Qxb6500766a
open Go Go.RowKit Go.Qm
set_option linter.unusedVariables false
set_option linter.unusedSimpArgs false
attribute [local go_sem ↓] Go.wp_at_zero Go.wp_at_succ
def MPlayR (B : Nat) (fp : Nat → Prop) (w : World) (gm n : Nat) (p : AnsV × Sys) (e : Ending) (w' : World) : Prop :=
  ∃ v fp' rows', e = .returned (.agg #[.int .i64 p.1.er, str p.1.key, .int .i64 p.1.n, v]) ∧ EntO w.heap.size w' v p.1.es ∧ MW B fp' w' gm rows' ∧ MRel rows' p.2 ∧ rows'.length ≤ n + 1 ∧ Stp fp fp' w w'
theorem MPlayR.of {B : Nat} {fp : Nat → Prop} {w w' : World} {gm n : Nat} {a : AnsV} {rows : List Row} {R : Sys} {e : Ending} (h : MPlayP B fp w gm (a, rows) e w') (hr : MRel rows R) (hn : rows.length ≤ n + 1) : MPlayR B fp w gm n (a, R) e w' := by
  obtain ⟨v, fp', he, ev, m, st⟩ := h
  exact ⟨v, fp', rows, he, ev, m, hr, hn, st⟩
theorem nxA_eq (o : Option (List UInt8)) : nxA o = ⟨nextE o, accK o, 0, []⟩ := by cases o <;> rfl
section
variable {B : Nat} {fp : Nat → Prop} {w : World} {gm : Nat} {rows : List Row} {R : Sys}
theorem mplay_c (o : OpV) (h : MW B fp w gm rows) (hr : MRel rows R) (hok : ∀ d, d < 24 → DirOK (R d)) (hlen : rows.length ≤ 65536) (hnm : o.name.length ≤ 65536) :
    Calls Try.prog 17 #[.pointer (some ⟨gm, 0, none⟩), .agg (opC o).toArray] w fun e w' => MPlayR B fp w gm rows.length (playF R o) e w' := by
  obtain ⟨kd, d, l, name, what⟩ := o
  have hnm : name.length ≤ 65536 := hnm
  have hnm6 : name.length ≤ 1000000 := by omega
  show Calls Try.prog 17 #[.pointer (some ⟨gm, 0, none⟩), .agg #[.int .i64 kd, .int .i64 d, .int .i64 l, str name, .int .i64 what]] w _
  unfold playF
  simp only
  by_cases k1 : kd = 1
  · subst k1
    rw [if_pos rfl]
    refine (mplay1 d l what name h hnm6 hlen).mono (fun e w' q => ?_)
    unfold addF
    simp only
    unfold maddF at q
    simp only at q
    cases hb : badA d l name what with
    | true =>
      rw [if_pos rfl]
      rw [hb, if_pos rfl] at q
      exact MPlayR.of q hr (by show rows.length ≤ rows.length + 1; omega)
    | false =>
      rw [if_neg (by simp)]
      rw [hb, if_neg (by simp)] at q
      obtain ⟨hd, hl, hne, ha, hz⟩ := badA_no hb
      obtain ⟨d', rfl, hd'⟩ := dirB_nat hd
      obtain ⟨l', rfl, hl'⟩ := layB_nat hl
      simp only [Int.toNat_natCast]
      rw [hr.has hd' hl' rfl rfl, hr.held hd' hl' rfl rfl] at q
      cases hh : hasR name (R d' l') with
      | true =>
        rw [if_pos rfl]
        simp only [hh, if_true] at q
        exact MPlayR.of q hr (by omega)
      | false =>
        rw [if_neg (by simp)]
        simp only [hh, Bool.false_eq_true, if_false] at q
        by_cases h12 : 12 ≤ (R d' l').length
        · rw [if_pos h12]
          simp only [h12, if_true] at q
          exact MPlayR.of q hr (by omega)
        · rw [if_neg h12]
          simp only [h12, if_false] at q
          exact MPlayR.of q (hr.add hd' hl' hnm what) (by rw [List.length_append, List.length_singleton]; omega)
  rw [if_neg k1]
  by_cases k2 : kd = 2
  · subst k2
    rw [if_pos rfl]
    refine (mplay2 d l what name h hnm6 hlen).mono (fun e w' q => ?_)
    unfold remF
    simp only
    unfold mremF at q
    simp only at q
    cases hb : badR d l name with
    | true =>
      rw [if_pos rfl]
      rw [hb, if_pos rfl] at q
      exact MPlayR.of q hr (by show rows.length ≤ rows.length + 1; omega)
    | false =>
      rw [if_neg (by simp)]
      rw [hb, if_neg (by simp)] at q
      obtain ⟨hd, hl, hne⟩ := badR_no hb
      obtain ⟨d', rfl, hd'⟩ := dirB_nat hd
      obtain ⟨l', rfl, hl'⟩ := layB_nat hl
      simp only [Int.toNat_natCast]
      have hany := hr.has (o := ⟨2, d', l', name, what⟩) hd' hl' rfl rfl
      simp only at hany
      cases hh : hasR name (R d' l') with
      | true =>
        rw [if_pos rfl]
        rw [hh] at hany
        rw [hany, if_pos rfl] at q
        refine MPlayR.of q (hr.rem (o := ⟨2, d', l', name, what⟩) hd' hl' rfl rfl ((hok d' hd').srt l' hl') hany) ?_
        have := List.length_eraseP_le (p := matR ⟨2, d', l', name, what⟩) (l := rows)
        show (rows.eraseP (matR ⟨2, d', l', name, what⟩)).length ≤ rows.length + 1
        omega
      | false =>
        rw [if_neg (by simp)]
        rw [hh] at hany
        rw [hany, if_neg (by simp)] at q
        exact MPlayR.of q hr (by show rows.length ≤ rows.length + 1; omega)
  rw [if_neg k2]
  by_cases k3 : kd = 3
  · subst k3
    rw [if_pos rfl]
    unfold lookF
    simp only
    cases hk : keyF name with
    | none => exact (mplay3n d l what name h hnm6 hk).mono (fun e w' q => MPlayR.of q hr (by omega))
    | some k =>
      simp only
      cases hd : dirB d with
      | false => rw [if_neg (by simp)]; exact (mplay3b d l what name h hnm6 hd k hk).mono (fun e w' q => MPlayR.of q hr (by omega))
      | true =>
        rw [if_pos rfl]
        refine (mplay3 d l what name h hnm6 hlen hr.nm (hr.dis hok) hd k hk).mono (fun e w' q => ?_)
        obtain ⟨d', rfl, hd'⟩ := dirB_nat hd
        rw [hr.bear hok hd'] at q
        exact MPlayR.of q hr (by omega)
  rw [if_neg k3]
  by_cases k4 : kd = 4
  · subst k4
    rw [if_pos rfl]
    unfold nextF afterF
    simp only
    by_cases hne : name = []
    · subst hne
      rw [if_pos rfl]
      simp only
      cases hd : dirB d with
      | false => rw [if_neg (by simp)]; exact (mplay40b d l what [] h hnm6 hd).mono (fun e w' q => MPlayR.of q hr (by omega))
      | true =>
        rw [if_pos rfl]
        refine (mplay40 d l what [] h hnm6 hlen hr.nm hd).mono (fun e w' q => ?_)
        obtain ⟨d', rfl, hd'⟩ := dirB_nat hd
        rw [hr.next hd', nxA_eq] at q
        exact MPlayR.of q hr (by omega)
    · rw [if_neg hne]
      cases hk : keyF name with
      | none => exact (mplay4n d l what name h hnm6 hne hk).mono (fun e w' q => MPlayR.of q hr (by omega))
      | some k =>
        simp only
        cases hd : dirB d with
        | false => rw [if_neg (by simp)]; exact (mplay4b d l what name h hnm6 hne hd k hk).mono (fun e w' q => MPlayR.of q hr (by omega))
        | true =>
          rw [if_pos rfl]
          refine (mplay4 d l what name h hnm6 hlen hr.nm hne hd k hk).mono (fun e w' q => ?_)
          obtain ⟨d', rfl, hd'⟩ := dirB_nat hd
          rw [hr.next hd', nxA_eq] at q
          exact MPlayR.of q hr (by omega)
  rw [if_neg k4]
  by_cases k5 : kd = 5
  · subst k5
    rw [if_pos rfl]
    unfold cntF
    simp only
    cases hd : dirB d with
    | false => rw [if_neg (by simp)]; exact (mplay5b d l what name h hnm6 hd).mono (fun e w' q => MPlayR.of q hr (by omega))
    | true =>
      rw [if_pos rfl]
      obtain ⟨d', rfl, hd'⟩ := dirB_nat hd
      exact (mplay5 d' l what name h hnm6 hlen hr.nm hd (R d') (fun a => hr.next hd' a) (cnt_le (hok d' hd').len)).mono (fun e w' q => MPlayR.of q hr (by omega))
  rw [if_neg k5]
  by_cases k6 : kd = 6 ∨ kd = 7
  · rw [if_pos k6]
    cases hd : dirB d with
    | false =>
      rw [if_neg (by simp)]
      rcases k6 with rfl | rfl
      · exact (mplay6b d l what name h hnm6 hd).mono (fun e w' q => MPlayR.of q hr (by omega))
      · exact (mplay7b d l what name h hnm6 hd).mono (fun e w' q => MPlayR.of q hr (by omega))
    | true =>
      rw [if_pos rfl]
      rcases k6 with rfl | rfl
      · exact (mplay6 d l what name h hnm6 hd).mono (fun e w' q => MPlayR.of q hr (by omega))
      · exact (mplay7 d l what name h hnm6 hd).mono (fun e w' q => MPlayR.of q hr (by omega))
  rw [if_neg k6]
  by_cases k8 : kd = 8
  · subst k8
    rw [if_pos rfl]
    exact (mplay8 d l what name h hnm6).mono (fun e w' q => MPlayR.of q hr (by omega))
  rw [if_neg k8]
  exact (mplay9 kd d l what name h hnm6 (fun i h1 h2 e => by omega)).mono (fun e w' q => MPlayR.of q hr (by omega))
end
def NewM (w : World) (e : Ending) (w' : World) : Prop := ∃ gm fp, e = .returned (.pointer (some ⟨gm, 0, none⟩)) ∧ MW w.heap.size fp w' gm [] ∧ (∀ q, fp q → q = gm) ∧ w.heap.size ≤ gm ∧ Keep w w'
theorem newM_c (w : World) : Calls Try.prog 16 #[] w fun e w' => NewM w e w' := by
  have A := Arr.new w 78 [.slice none 0 0]
  go_enter Try.func16, Try.ntmps16
  go_wp2_with fail
  go_ret
  refine ⟨w.heap.size, fun q => q = w.heap.size ∨ (Value.slice none 0 0).ownBlock = some q, rfl, ⟨⟨_, A, Or.inl (OwnS.nil _ _ _ _ _), fun _ => Iff.rfl⟩, Nat.le_refl _⟩, ?_, Nat.le_refl _, (Keep.refl w).alloc _⟩
  rintro q (a | a)
  · exact a
  · cases a
/-- The real layer and the model side by side. -/
structure TM (w0 : World) (gs gc gw gm N : Nat) (R : Sys) (rows : List Row) (fp fm : Nat → Prop) (W : World) : Prop where
  W1 : WW w0.heap.size fp W gs gc N R
  M1 : MW w0.heap.size fm W gm rows
  A1 : Arr W gw 38 [.pointer (some ⟨gs, 0, none⟩), .pointer (some ⟨gc, 0, none⟩)]
  n1 : ¬ fp gw
  n2 : ¬ fm gw
  dj : ∀ q, fp q → ¬ fm q
  kp : Keep w0 W
section
variable {w0 W W' : World} {gs gc gw gm N M : Nat} {R R' : Sys} {rows rows' : List Row} {fp fm fp' : Nat → Prop}
theorem TM.step1 (T : TM w0 gs gc gw gm N R rows fp fm W) (st : Stp fp fp' W W') (W1' : WW w0.heap.size fp' W' gs gc M R') : TM w0 gs gc gw gm M R' rows fp' fm W' :=
  ⟨W1', T.M1.fr st.1 (fun q hq a => T.dj q a hq), T.A1.fpS T.n1 st, stp_not st T.A1.lt T.n1, T.n2, fun q a b => (st.2 q a).elim (fun c => T.dj q c b) (fun c => by have := (T.M1.lo b).2; omega), st.keepB T.kp T.W1 (Nat.le_refl _)⟩
theorem TM.step2 (T : TM w0 gs gc gw gm N R rows fp fm W) (st : Stp fm fp' W W') (M1' : MW w0.heap.size fp' W' gm rows') : TM w0 gs gc gw gm N R rows' fp fp' W' :=
  ⟨T.W1.fr st.1 (fun q hq a => T.dj q hq a), M1', T.A1.fpS T.n2 st, T.n1, stp_not st T.A1.lt T.n2, fun q a b => (st.2 q b).elim (fun c => T.dj q a c) (fun c => by have := (T.W1.lo a).2; omega),
    ⟨st.1.os.trans T.kp.os, st.1.tape.trans T.kp.tape, st.1.output.trans T.kp.output, Nat.le_trans T.kp.size st.1.size, fun q hq => by
      rw [st.1.block q (Nat.lt_of_lt_of_le hq T.kp.size) (fun a => by have := (T.M1.lo a).1; omega)]
      exact T.kp.block q hq⟩⟩
theorem TM.keep (T : TM w0 gs gc gw gm N R rows fp fm W) (k : Keep W W') : TM w0 gs gc gw gm N R rows fp fm W' :=
  ⟨T.W1.keep k, T.M1.keep k, T.A1.keep k, T.n1, T.n2, T.dj, T.kp.trans k⟩
end
set_option maxRecDepth 4000 in
set_option maxHeartbeats 4000000 in
theorem modelDoes_c (v : Value) (ss : List OpV) (w : World) (h : Script w v ss) : Calls Try.prog 5 #[v] w fun e w' => e = .returned (.bool true) ∧ Keep w w' := by
  have SM := small_c v ss w h
  obtain ⟨av, cv, rfl, hac, hcm, hca⟩ := h
  unfold maxLen at hcm
  go_enter Try.func5, Try.ntmps5
  go_wp2_with fail
  refine SM.mono ?_
  rintro e w1 ⟨⟨b, rfl, hsm⟩, k1⟩
  cases b with
  | false =>
    go_wp2_with fail
    go_ret
    exact ⟨rfl, k1⟩
  | true =>
    obtain ⟨hlen, hnm⟩ := hsm rfl
    have HNM := Hid.mk hnm
    have HCA := Hid.mk hca
    clear hsm hnm hca SM
    go_wp2_with fail
    refine (newW w1).mono ?_
    rintro e w2 ⟨gs, gc, gw, fp1, rfl, W1, A1, n1, hg1, k2⟩
    go_wp2_with fail
    refine (newM_c w2).mono ?_
    rintro e w3 ⟨gm, fm, rfl, M1, hfm, hgm, k3⟩
    have TT : ∃ fp fm rows, TM w1 gs gc gw gm 0 (runS ss 0) rows fp fm w3 ∧ MRel rows (runS ss 0) ∧ rows.length ≤ 0 := by
      have l1 := A1.lt
      refine ⟨fp1, fm, [], ⟨W1.keep k3, ?_, A1.keep k3, n1, fun a => ?_, fun q a c => ?_, k2.trans k3⟩, MRel.nil, by simp⟩
      · obtain ⟨u, Au, Ru, hf⟩ := M1.ex
        refine ⟨⟨u, Au, ?_, hf⟩, Nat.le_trans k2.size M1.gB⟩
        rcases Ru with q | ⟨g, cur, e1, e2, e3, e4, e5⟩
        · exact Or.inl (q.mono k2.size)
        · exact Or.inr ⟨g, cur, e1, Nat.le_trans k2.size e2, e3, e4, e5⟩
      · have := hfm gw a; omega
      · have e1 := hfm q c
        have e2 := (W1.lo a).2
        omega
    have HTT := Hid.mk TT
    clear TT W1 M1 A1 n1 hfm
    go_wp2_with fail
    go_loopg [5] ss.length (fun gk iv wr => ∃ (k : Nat) (fp fm : Nat → Prop) (rows : List Row), k + gk = ss.length ∧ iv = .int .i64 k ∧ TM w1 gs gc gw gm k (runS ss k) rows fp fm wr ∧ MRel rows (runS ss k) ∧ rows.length ≤ k)
    case atStart =>
      obtain ⟨f1, f2, rows, T, rel, hl⟩ := HTT.out
      exact ⟨0, f1, f2, rows, by omega, rfl, T, rel, hl⟩
    case round =>
      obtain ⟨k, f1, f2, rows, hk, rfl, T, rel, hrl⟩ := hrel
      have HK := Hid.mk hk
      clear hk HTT
      by_cases hlt : k < ss.length
      · have i1 : (k : Int) < ss.length := by omega
        obtain ⟨b, o, rfl, hop⟩ := HCA.out k hlt
        have HOP := Hid.mk hop
        have hnk := HNM.out ss[k] (List.getElem_mem hlt)
        have RS : Hid (runS ss (k + 1) = (playF (runS ss k) ss[k]).2) := Hid.mk (runS_succ hlt)
        have HEL := Hid.mk (play_len T.W1 ss[k])
        have hokR : ∀ d, d < 24 → DirOK (runS ss k d) := fun d hd => T.W1.ok hd
        have PL1 := fun W f1 f2 (T : TM w1 gs gc gw gm k (runS ss k) rows f1 f2 W) => play_c ss[k] T.W1 T.A1 T.n1 (by omega) (by omega)
        have PL2 := fun W f1 f2 (T : TM w1 gs gc gw gm (k + 1) (playF (runS ss k) ss[k]).2 rows f1 f2 W) => mplay_c ss[k] T.M1 rel hokR (by omega) hnk
        have HOT : Hid (∀ W f1 f2 N R1 rs, TM w1 gs gc gw gm N R1 rs f1 f2 W → OpAt W b (o + k * 5) ss[k]) := Hid.mk (fun W f1 f2 N R1 rs T => HOP.out.keep (k1.trans T.kp))
        clear hop hokR rel
        generalize runS ss k = R at *
        generalize ss[k] = op at *
        generalize hP : playF R op = P at *
        clear hP
        obtain ⟨⟨er, ke, nn, es⟩, R'⟩ := P
        unfold PlayP at PL1
        unfold MPlayR at PL2
        simp only at PL1 PL2 HEL RS
        unfold opC at PL1 PL2
        have HP1 := Hid.mk PL1
        have HP2 := Hid.mk PL2
        clear PL1 PL2
        have O4 := HOT.out _ _ _ _ _ _ T
        have x0 := O4.c0
        have x1 := O4.c1
        have x2 := O4.c2
        have x3 := O4.c3
        have x4 := O4.c4
        clear O4
        go_wp2_with fail
        go_region_held3 (fun w' => w'.cell? ⟨b, o + k * 5, none⟩ = some (.int .i64 op.kind) ∧ w'.cell? ⟨b, o + k * 5 + 1, none⟩ = some (.int .i64 op.dir) ∧ w'.cell? ⟨b, o + k * 5 + 2, none⟩ = some (.int .i64 op.layer) ∧ w'.cell? ⟨b, o + k * 5 + 3, none⟩ = some (str op.name) ∧ w'.cell? ⟨b, o + k * 5 + 4, none⟩ = some (.int .i64 op.what))
          (first | exact ⟨q3.cell O6.c0, q3.cell O6.c1, q3.cell O6.c2, q3.cell O6.c3, q3.cell O6.c4⟩ | exact ⟨O6.c0, O6.c1, O6.c2, O6.c3, O6.c4⟩ | exact ⟨O5.c0, O5.c1, O5.c2, O5.c3, O5.c4⟩ | exact ⟨x0, x1, x2, x3, x4⟩)
          (first
          | (go_at_call 10; refine (HP1.out _ _ _ (T.keep ((Keep.refl wr).drew))).mono ?_; rintro e w5 ⟨v1, f4, rfl, ev1, W5, st5⟩; have T5 := (T.keep ((Keep.refl wr).drew)).step1 st5 W5; have O5 := HOT.out _ _ _ _ _ _ T5)
          | (go_at_call 17; refine (HP2.out _ _ _ T5).mono ?_; rintro e w6 ⟨v2, f5, rows2, rfl, ev2, M6, rel6, hl6, st6⟩; have T6 := T5.step2 st6 M6; have O6 := HOT.out _ _ _ _ _ _ T6; have ev3 := ev1.fr st6.1 (fun q hq a => (by have e1 := (ev1.lt q hq).1; have e2 := (T.M1.lo a).2; exact absurd e2 (Nat.not_lt.2 e1))))
          | (go_at_call 15; refine (same_eq_c _ _ er nn ke v1 v2 es w6 ev3 ev2 (Nat.le_trans HEL.out (by omega))).mono ?_; rintro e w7 ⟨rfl, q3⟩; have T7 := T6.keep q3))
        go_wp2_with fail
        go_roundg (gk - 1)
        case measure => have := HK.out; omega
        case rel => exact ⟨k + 1, f4, f5, rows2, by have := HK.out; omega, by go_num, by rw [RS.out]; exact T7, by rw [RS.out]; exact rel6, by omega⟩
      · have i1 : ¬ (k : Int) < ss.length := by omega
        go_wp2_with fail
        go_ret
        exact ⟨rfl, k1.trans T.kp⟩
end Go.Proofs.Qxb6500766a
