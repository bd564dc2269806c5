/- mergem: Walk, WalkParent. -/
import Derived.Test.Qxb6500767aTe
namespace Go.Proofs.Qxb6500767a
open Go.RowKit Go.Qm
set_option linter.unusedVariables false
set_option linter.unusedSimpArgs false
attribute [local go_sem ↓] Go.wp_at_zero Go.wp_at_succ
theorem nxt_lt {T : List Nd} (ok : TOK T) {a i : Nat} (ha : a < T.length) {key : List UInt8} (h : findE key (at' T a).edges = some i) : nxt T a i < T.length := by
  have hil := findE_lt h
  unfold nxt
  rw [List.getD_eq_getElem?_getD, List.getElem?_eq_getElem hil]
  exact ok.edg a ha _ (List.getElem_mem hil)
theorem walkF_lt {T : List Nd} (ok : TOK T) (fl : Bool) (h : Nat) (todo : List (List UInt8)) (a : Nat) (ha : a < T.length) : (walkF T fl h todo a).1 < T.length := by
  have hr := ok.root
  match todo with
  | [] => rw [wf_nil]; exact ha
  | name :: rest =>
    by_cases h1 : (at' T a).kind = 2
    · by_cases h2 : name = [46]
      · rw [wf_dot h1 h2]; exact walkF_lt ok fl h rest a ha
      · by_cases h3 : name = [46, 46]
        · rw [wf_dd h1 h2 h3]; exact walkF_lt ok fl h rest _ (ok.par a ha)
        · by_cases h4 : (keyR name).1 = 0
          · cases h5 : findE (keyR name).2 (at' T a).edges with
            | none => rw [wf_no h1 h2 h3 h4 h5]; exact hr
            | some i =>
              have hn := nxt_lt ok ha h5
              by_cases h6 : (at' T (nxt T a i)).kind = 3 ∧ (rest ≠ [] ∨ fl = true)
              · match h with
                | 0 => rw [wf_loop h1 h2 h3 h4 h5 h6]; exact hr
                | h + 1 =>
                  rw [wf_hop h1 h2 h3 h4 h5 h6]
                  exact walkF_lt ok fl h _ _ (by split; exact hr; exact ha)
              · rw [wf_go h1 h2 h3 h4 h5 h6]; exact walkF_lt ok fl h rest _ hn
          · rw [wf_bad h1 h2 h3 h4]; exact hr
    · rw [wf_dir h1]; exact hr
termination_by (h, todo.length)
def pathF (T : List Nd) (path : List UInt8) (fl : Bool) : Nat × Int := if path = [] then (0, 6) else walkF T fl 8 (splitF path) 0
theorem pathF_lt {T : List Nd} (ok : TOK T) (path : List UInt8) (fl : Bool) : (pathF T path fl).1 < T.length := by
  unfold pathF; split; exact ok.root; exact walkF_lt ok _ _ _ _ ok.root
set_option maxRecDepth 3000 in
theorem walk_c (gt : Nat) (T : List Nd) (fl : Bool) (path : List UInt8) (w : World) (h : TR w gt T) (ok : TOK T) (hl : path.length ≤ 100000) :
    Calls Try.prog 63 #[.pointer (some ⟨gt, 0, none⟩), str path, .bool fl] w fun e w' => e = .returned (.tuple #[.int .i64 ((pathF T path fl).1 : Nat), .int .i64 (pathF T path fl).2]) ∧ Keep w w' := by
  obtain ⟨R, hR⟩ : ∃ R, R = pathF T path fl := ⟨_, rfl⟩
  rw [← hR]
  by_cases h0 : path = []
  · have HR : Hid (R = (0, 6)) := Hid.mk (by rw [hR, pathF, if_pos h0])
    subst h0
    clear hR
    go_enter Try.func63, Try.ntmps63
    go_wp2_with fail
    go_ret2
    rw [HR.out]
    exact ⟨rfl, Keep.refl _⟩
  · have q1 : (path == []) = false := by simpa using h0
    have HR : Hid (R = walkF T fl 8 (splitF path) 0) := Hid.mk (by rw [hR, pathF, if_neg h0])
    have hsp := splitF_le path
    have SC := split_c path w (by omega)
    have WL := fun W v (hk : Keep w W) (hv : Sl W v ((splitF path).map str)) => walkList_c gt T fl (splitF path) v W (h.keep hk) ok hv (by omega) (fun x hx => by have := hsp.2 x hx; omega)
    clear hR h0
    rw [← HR.out] at WL
    generalize splitF path = sp at *
    go_enter Try.func63, Try.ntmps63
    go_wp2_with fail
    refine SC.mono ?_
    rintro e w1 ⟨v1, rfl, o1, k1⟩
    go_wp2_with fail
    refine (WL _ _ k1 o1.sl).mono ?_
    rintro e w2 ⟨rfl, k2⟩
    go_wp2_with fail
    go_ret2
    exact ⟨rfl, k1.trans k2⟩
/-- The directory, the name, its key; the refusal. -/
def parF (T : List Nd) (path : List UInt8) : Nat × List UInt8 × List UInt8 × Int :=
  if path = [] then (0, [], [], 6) else if splitF path = [] then (0, [], [], 2)
  else if (walkF T true 8 (splitF path).dropLast 0).2 ≠ 0 then (0, [], [], (walkF T true 8 (splitF path).dropLast 0).2)
  else if (at' T (walkF T true 8 (splitF path).dropLast 0).1).kind ≠ 2 then (0, [], [], 7)
  else if (keyR ((splitF path).getLastD [])).1 ≠ 0 then (0, [], [], (keyR ((splitF path).getLastD [])).1)
  else ((walkF T true 8 (splitF path).dropLast 0).1, (splitF path).getLastD [], (keyR ((splitF path).getLastD [])).2, 0)
theorem results_tmp4 {fn : Func} {t u v x : Tmp} (h : fn.results = #[.tmp t, .tmp u, .tmp v, .tmp x]) (tmps : Array Value) (P : Program) (w : World) :
    (results fn tmps).run P w = .ok (.tuple #[tmps.getD t undef, tmps.getD u undef, tmps.getD v undef, tmps.getD x undef]) w := by
  simp [results, h]
def parV (r : Nat × List UInt8 × List UInt8 × Int) : Value := .tuple #[.int .i64 (r.1 : Nat), str r.2.1, str r.2.2.1, .int .i64 r.2.2.2]
theorem sl_last {w : World} {v : Value} {l : List (List UInt8)} {n : Nat} (h : Sl w v (l.map str)) (hn : l.length = n + 1) : ∃ b o c, v = .slice (some ⟨b, o, none⟩) (n + 1) c ∧ n + 1 ≤ c ∧ c ≤ maxLen ∧ w.cell? ⟨b, o + n, none⟩ = some (str (l.getLastD [])) := by
  obtain ⟨a, c, e, h1, h2, h3⟩ := h
  have hl : l.getLastD [] = l[n]'(by omega) := by
    rw [List.getLastD_eq_getLast?, List.getLast?_eq_getElem?, show l.length - 1 = n by omega, List.getElem?_eq_getElem (by omega)]; rfl
  obtain ⟨b, o, rfl, hc⟩ := h3 n (str (l.getLastD [])) (by rw [List.getElem?_map, List.getElem?_eq_getElem (by omega), hl]; rfl)
  rw [List.length_map, hn] at e h1
  exact ⟨b, o, c, e, h1, h2, hc⟩
set_option maxRecDepth 3000 in
set_option maxHeartbeats 4000000 in
theorem walkParent_c (gt : Nat) (T : List Nd) (path : List UInt8) (w : World) (h : TR w gt T) (ok : TOK T) (hl : path.length ≤ 100000) :
    Calls Try.prog 92 #[.pointer (some ⟨gt, 0, none⟩), str path] w fun e w' => e = .returned (parV (parF T path)) ∧ Keep w w' := by
  obtain ⟨R, hR⟩ : ∃ R, R = parF T path := ⟨_, rfl⟩
  rw [← hR]
  by_cases h0 : path = []
  · have HR : Hid (R = (0, [], [], 6)) := Hid.mk (by rw [hR, parF, if_pos h0])
    subst h0
    clear hR
    go_enter Try.func92, Try.ntmps92
    go_wp2_with fail
    refine bodyPost_ret (results_tmp4 rfl _ _ _) rfl ?_
    rw [HR.out]
    exact ⟨rfl, Keep.refl _⟩
  · have q1 : (path == []) = false := by simpa using h0
    have hsp := splitF_le path
    have SC := split_c path w (by omega)
    have HSC := Hid.mk (walkF_lt ok true 8 (splitF path).dropLast 0 ok.root)
    cases hs : splitF path with
    | nil =>
      have HR : Hid (R = (0, [], [], 2)) := Hid.mk (by rw [hR, parF, if_neg h0, if_pos hs])
      rw [hs] at SC
      clear hR h0 hs HSC hsp
      go_enter Try.func92, Try.ntmps92
      go_wp2_with fail
      refine SC.mono ?_
      rintro e w1 ⟨v1, rfl, o1, k1⟩
      obtain ⟨a, c, hv, -, -, -⟩ := o1.sl
      subst hv
      go_wp2_with fail
      refine bodyPost_ret (results_tmp4 rfl _ _ _) rfl ?_
      rw [HR.out]
      exact ⟨rfl, k1⟩
    | cons x0 xs =>
      have hne : splitF path ≠ [] := by rw [hs]; simp
      obtain ⟨n, hn⟩ : ∃ n, (splitF path).length = n + 1 := ⟨xs.length, by rw [hs]; rfl⟩
      clear hs x0 xs
      obtain ⟨d, hd⟩ : ∃ d, d = walkF T true 8 (splitF path).dropLast 0 := ⟨_, rfl⟩
      obtain ⟨nm, hnm⟩ : ∃ nm, nm = (splitF path).getLastD [] := ⟨_, rfl⟩
      have hnl : nm.length ≤ 1000000 := by
        rw [hnm]
        have : (splitF path).getLastD [] ∈ splitF path := by
          rw [List.getLastD_eq_getLast?, List.getLast?_eq_some_getLast hne]
          exact List.getLast_mem hne
        have := hsp.2 _ this
        omega
      have HR1 : Hid (d.2 ≠ 0 → R = (0, [], [], d.2)) := Hid.mk (fun e => by rw [hR, parF, if_neg h0, if_neg hne, ← hd, if_pos e])
      have HR2 : Hid (d.2 = 0 → (at' T d.1).kind ≠ 2 → R = (0, [], [], 7)) := Hid.mk (fun e1 e2 => by rw [hR, parF, if_neg h0, if_neg hne, ← hd, if_neg (by simpa using e1), if_pos e2])
      have HR3 : Hid (d.2 = 0 → (at' T d.1).kind = 2 → (keyR nm).1 ≠ 0 → R = (0, [], [], (keyR nm).1)) := Hid.mk (fun e1 e2 e3 => by rw [hR, parF, if_neg h0, if_neg hne, ← hd, if_neg (by simpa using e1), if_neg (by simpa using e2), ← hnm, if_pos e3])
      have HR4 : Hid (d.2 = 0 → (at' T d.1).kind = 2 → (keyR nm).1 = 0 → R = (d.1, nm, (keyR nm).2, 0)) := Hid.mk (fun e1 e2 e3 => by rw [hR, parF, if_neg h0, if_neg hne, ← hd, if_neg (by simpa using e1), if_neg (by simpa using e2), ← hnm, if_neg (by simpa using e3)])
      rw [← hd] at HSC
      have WL := fun W v (hk : Keep w W) (hv : Sl W v ((splitF path).dropLast.map str)) => walkList_c gt T true (splitF path).dropLast v W (h.keep hk) ok hv (by rw [List.length_dropLast]; omega) (fun x hx => by have := hsp.2 x (List.dropLast_subset _ hx); omega)
      rw [← hd] at WL
      have SL := fun W v (hv : Sl W v ((splitF path).map str)) => sl_last hv hn
      rw [← hnm] at SL
      have DL : ∀ W b o c, Sl W (.slice (some ⟨b, o, none⟩) (n + 1) c) ((splitF path).map str) → Sl W (.slice (some ⟨b, o, none⟩) n c) ((splitF path).dropLast.map str) := by
        intro W b o c hv
        have := hv.part (i := 0) (j := n) (by omega) (by omega) (some ⟨b, o, none⟩) (fun _ => by simp [Addr.add])
        rw [Nat.sub_zero, Nat.sub_zero, List.drop_zero, ← List.map_take, show n = (splitF path).length - 1 by omega, ← List.dropLast_eq_take] at this
        rw [show n = (splitF path).length - 1 by omega]
        exact this
      have KC := fun W => key_c nm W hnl
      have hn6 : n ≤ 1000000 := by omega
      have HTR := Hid.mk h
      clear hR h0 hd hnm hne hsp
      generalize splitF path = sp at *
      obtain ⟨d1, d2⟩ := d
      simp only at HR1 HR2 HR3 HR4 HSC WL
      obtain ⟨er, hke⟩ : ∃ er, er = (keyR nm).1 := ⟨_, rfl⟩
      obtain ⟨kk, hkk⟩ : ∃ kk, kk = (keyR nm).2 := ⟨_, rfl⟩
      rw [← hke] at KC HR3 HR4
      rw [← hkk] at KC HR4
      clear hke hkk h
      have e1 : IntKind.i64.wrap (((n + 1 : Nat) : Int) - 1) = (n : Int) := by rw [IntKind.wrap_i64] <;> omega
      have j0 : (0 : Int) ≤ n := by omega
      have j1 : (((n + 1 : Nat) : Int) == 0) = false := by simp; omega
      go_enter Try.func92, Try.ntmps92
      go_wp2_with fail
      refine SC.mono ?_
      rintro e w1 ⟨v1, rfl, o1, k1⟩
      have s1 := o1.sl
      obtain ⟨b, o, c, rfl, hc1, hcm, hcl⟩ := SL _ _ s1
      have D1 := DL _ _ _ _ s1
      unfold maxLen at hcm
      have j2 : (n : Int) ≤ c := by omega
      have j3 : (n : Int) < ((n + 1 : Nat) : Int) := by omega
      clear SC SL DL hn s1
      generalize hm : n + 1 = m at *
      go_wp2_with fail
      refine (WL _ _ k1 D1).mono ?_
      rintro e w2 ⟨rfl, k2⟩
      have k12 := k1.trans k2
      have hcl2 := k2.cell hcl
      by_cases hd2 : d2 = 0
      · subst hd2
        obtain ⟨bn, cap, t0, t1, t2, t3⟩ := HTR.out.keep k12
        obtain ⟨dv, ev, n0, -⟩ := t3 d1 HSC.out
        have i1 : (d1 : Int) < T.length := by have := HSC.out; omega
        have i0 : (0 : Int) ≤ d1 := by omega
        unfold maxLen at t2
        clear t3 hcl
        by_cases hkd : (at' T d1).kind = 2
        · have q2 : (((at' T d1).kind : Int) != 2) = false := by simp [hkd]
          have HR3' : Hid (er ≠ 0 → R = (0, [], [], er)) := Hid.mk (fun e => HR3.out rfl hkd e)
          have HR4' : Hid (er = 0 → R = (d1, nm, kk, 0)) := Hid.mk (fun e => HR4.out rfl hkd e)
          clear hkd HR1 HR2 HR3 HR4
          go_wp2_with fail
          refine (KC _).mono ?_
          rintro e w3 ⟨rfl, k3⟩
          by_cases he : er = 0
          · have HF := Hid.mk (HR4'.out he)
            subst he
            go_wp2_with fail
            refine bodyPost_ret (results_tmp4 rfl _ _ _) rfl ?_
            rw [HF.out]
            exact ⟨rfl, k12.trans k3⟩
          · have HF := Hid.mk (HR3'.out he)
            have q3 : (er != 0) = true := by simp [he]
            go_wp2_with fail
            refine bodyPost_ret (results_tmp4 rfl _ _ _) rfl ?_
            rw [HF.out]
            exact ⟨rfl, k12.trans k3⟩
        · have q2 : (((at' T d1).kind : Int) != 2) = true := by simp; omega
          have HF := Hid.mk (HR2.out rfl hkd)
          clear hkd HR1 HR2 HR3 HR4
          go_wp2_with fail
          refine bodyPost_ret (results_tmp4 rfl _ _ _) rfl ?_
          rw [HF.out]
          exact ⟨rfl, k12⟩
      · have HF := Hid.mk (HR1.out hd2)
        have q2 : (d2 != 0) = true := by simp [hd2]
        go_wp2_with fail
        refine bodyPost_ret (results_tmp4 rfl _ _ _) rfl ?_
        rw [HF.out]
        exact ⟨rfl, k12⟩
end Go.Proofs.Qxb6500767a
