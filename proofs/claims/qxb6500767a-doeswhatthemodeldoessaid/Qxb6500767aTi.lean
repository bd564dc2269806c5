/- mutatem: attach, detach. -/
import Derived.Test.Qxb6500767aTh
namespace Go.Proofs.Qxb6500767a
open Go.RowKit Go.Qm
set_option linter.unusedVariables false
set_option linter.unusedSimpArgs false
attribute [local go_sem ↓] Go.wp_at_zero Go.wp_at_succ
theorem inf102 : (Try.prog.info? 102).map (fun i => (i.zero, i.size, i.bytes)) = some (some (.agg (edgC ⟨[], [], 0⟩).toArray), 3, 40) := by kernel_rfl
theorem TW.put {B gt bn cap : Nat} {w W : World} {nv : Value} {L : List Nm} (h : TW B w gt nv L) (hv : nv = .slice (some ⟨bn, 0, none⟩) L.length cap) {i : Nat} (hi : i < L.length) (hk : Keep w W) {j : Nat} (hj : j < 7) (x' : Nm) (u : Value) (hx : nodC x' = (nodC L[i]).set j u) (hd : Dat B W x'.dv x'.nd.data x'.nd.kind) (he : EdgO B W x'.ev x'.nd.edges)
    (hnew : ∀ b q, (vl x' b).ownBlock = some q → vb L i b = some q ∨ w.heap.size ≤ q) (hdif : ∀ q, x'.dv.ownBlock = some q → x'.ev.ownBlock ≠ some q) :
    TW B (W.setCell ⟨bn, i * 7 + j, none⟩ u) gt nv (L.set i x') ∧ Stp (FPT gt nv L) (FPT gt nv (L.set i x')) w (W.setCell ⟨bn, i * 7 + j, none⟩ u) := by
  have hob : nv.ownBlock = some bn := by rw [hv]; rfl
  have hbn : bn < w.heap.size := (h.own (Or.inr (Or.inl hob))).2
  have F1 : Fr (fun q => q = bn) W (W.setCell ⟨bn, i * 7 + j, none⟩ u) := (Fr.refl (fun q => q = bn) W).setCell (p := ⟨bn, i * 7 + j, none⟩) (Or.inl rfl) u
  have F : Fr (fun q => q = bn) w (W.setCell ⟨bn, i * 7 + j, none⟩ u) := (Fr.keep hk).trans F1
  have nb : ∀ b q, (vl x' b).ownBlock = some q → ¬ q = bn := by
    intro b q hq e
    subst e
    rcases hnew b q hq with a | a
    · exact (h.ap1 i b q a).2 hob
    · omega
  exact ⟨h.repl hi _ ((h.rows.keep hk).setc nodC_length hi hj _ u hx hob) F (fun q hq => Or.inl (by rw [hq]; exact hob)) (hd.fr F1 (fun q hq => nb false q hq)) (he.fr F1 (fun q hq => nb true q hq)) hnew hdif, F.mono (fun q _ hq => Or.inr (Or.inl (by rw [hq]; exact hob))), fpt_set h hi hnew⟩
/-- The edges, or the data, of node i become a fresh slice. -/
theorem TreeW.fresh {B gt : Nat} {fp : Nat → Prop} {w : World} {T : List Nd} (h : TreeW B fp w gt T) {i : Nat} (hi : i < T.length) :
    ∃ bn cap dv ev, w.cell? ⟨gt, 0, none⟩ = some (.slice (some ⟨bn, 0, none⟩) T.length cap) ∧ T.length ≤ cap ∧ cap ≤ maxLen ∧ w.cell? ⟨bn, i * 7 + 5, none⟩ = some dv ∧ w.cell? ⟨bn, i * 7 + 6, none⟩ = some ev ∧ Dat B w dv (at' T i).data (at' T i).kind ∧ EdgO B w ev (at' T i).edges ∧ (∀ j, w.frozen? ⟨bn, j, none⟩ = false) ∧ (∀ W, Keep w W → ∀ j, W.frozen? ⟨bn, j, none⟩ = false) ∧
      (∀ W es v, Keep w W → EdgO w.heap.size W v es → ∃ fp', TreeW B fp' (W.setCell ⟨bn, i * 7 + 6, none⟩ v) gt (T.set i { at' T i with edges := es }) ∧ Stp fp fp' w (W.setCell ⟨bn, i * 7 + 6, none⟩ v)) ∧
      (∀ W d v, Keep w W → Own w.heap.size 5 W v (d.map cb) → ∃ fp', TreeW B fp' (W.setCell ⟨bn, i * 7 + 5, none⟩ v) gt (T.set i { at' T i with data := d }) ∧ Stp fp fp' w (W.setCell ⟨bn, i * 7 + 5, none⟩ v)) := by
  obtain ⟨nv, L, h, rfl, rfl⟩ := h
  have hi' : i < L.length := by simpa using hi
  obtain ⟨bn, cap, cur, e, hB, hA, hc, hm, hl, ht⟩ := h.form
  obtain ⟨c0, c1, c2, c3, c4, c5, c6⟩ := h.row e hi'
  have hBw : B ≤ w.heap.size := by have := h.own (Or.inl rfl); omega
  rw [at_map hi']
  refine ⟨bn, cap, _, _, by rw [h.tree.cell 0, e]; simp, by simpa using hc, hm, c5, c6, h.data i hi', h.edges i hi', fun j => hA.frozen j, fun W hk j => (hA.keep hk).frozen j, ?_, ?_⟩
  · intro W es v hk hv
    obtain ⟨t, s⟩ := h.put e hi' hk (j := 6) (by omega) ⟨{ L[i].nd with edges := es }, L[i].dv, v⟩ v rfl ((h.data i hi').keep hk) (hv.mono hBw) (fun b q hq => by
      cases b
      · exact Or.inl (by rw [vb_get hi']; exact hq)
      · exact Or.inr (hv.lt q hq).1) (fun q a b => by
        have := (h.data i hi').lt q a
        have := (hv.lt q b).1
        omega)
    exact ⟨_, ⟨nv, _, t, by rw [List.map_set], rfl⟩, s⟩
  · intro W d v hk hv
    obtain ⟨t, s⟩ := h.put e hi' hk (j := 5) (by omega) ⟨{ L[i].nd with data := d }, v, L[i].ev⟩ v rfl (Dat.of_own (hv.mono hBw) _) ((h.edges i hi').keep hk) (fun b q hq => by
      cases b
      · exact Or.inr (hv.lt q hq).1
      · exact Or.inl (by rw [vb_get hi']; exact hq)) (fun q a b => by
        have := (h.edges i hi').lt q b
        have := (hv.lt q a).1
        omega)
    exact ⟨_, ⟨nv, _, t, by rw [List.map_set], rfl⟩, s⟩
def detE (key : List UInt8) (es : List Edg) : List Edg := es.filter fun e => e.key != key
theorem detE_step {key : List UInt8} {es : List Edg} {k : Nat} (h : k < es.length) : detE key (es.take (k + 1)) = detE key (es.take k) ++ if es[k].key = key then [] else [es[k]] := by
  rw [List.take_succ_eq_append_getElem h, detE, List.filter_append, ← detE]
  by_cases e : es[k].key = key
  · rw [if_pos e]; simp [e]
  · rw [if_neg e]; simp [e]
set_option maxRecDepth 3000 in
set_option maxHeartbeats 4000000 in
theorem detach_c (B gt d : Nat) (key : List UInt8) (fp : Nat → Prop) (T : List Nd) (w : World) (h : TreeW B fp w gt T) (hd : d < T.length) (hl : (at' T d).edges.length ≤ 1000000) :
    Calls Try.prog 94 #[.pointer (some ⟨gt, 0, none⟩), .int .i64 d, str key] w fun e w' => RetT B fp w gt (T.set d { at' T d with edges := detE key (at' T d).edges }) (.returned (.tuple #[])) e w' := by
  obtain ⟨bn, cap, dv, ev, c0, h1, h2, -, n6, -, oe, fz, fzk, SE, -⟩ := h.fresh hd
  obtain ⟨ea, ec, rfl, x1, x2, x3⟩ := Es.of_own oe
  have HSE := Hid.mk SE
  have HFZ := Hid.mk fzk
  have i1 : (d : Int) < T.length := by omega
  have i0 : (0 : Int) ≤ d := by omega
  unfold maxLen at h2 x2
  obtain ⟨es, hes⟩ : ∃ es, es = (at' T d).edges := ⟨_, rfl⟩
  rw [← hes] at x1 x3 hl n6 ⊢
  clear SE fz fzk oe h hes
  go_enter Try.func94, Try.ntmps94
  go_wp2_with fail
  go_loopg [7, 8] es.length (fun gk nv iv wr => ∃ (k : Nat) (out : List Edg), k + gk = es.length ∧ iv = .int .i64 k ∧ out = detE key (es.take k) ∧ out.length ≤ k ∧ EdgO w.heap.size wr nv out ∧ Keep w wr)
  case atStart => exact ⟨0, [], Nat.zero_add _, rfl, rfl, Nat.le_refl _, OwnS.nil _ _ _ _ _, Keep.refl _⟩
  case round => as_aux_lemma =>
    obtain ⟨k, out, hk, rfl, hout, hol, oo, kw⟩ := hrel
    have hw := kw.size
    by_cases hlt : k < es.length
    · have j1 : (k : Int) < es.length := by omega
      have j0 : (0 : Int) ≤ k := by omega
      obtain ⟨g, rfl, y0, y1, y2⟩ := x3 k hlt
      replace y0 := kw.cell y0
      replace y1 := kw.cell y1
      replace y2 := kw.cell y2
      have ST := detE_step (key := key) hlt
      rw [← hout] at ST
      have HOUT := Hid.mk hout
      have HOL : Hid (out.length ≤ 1000000) := Hid.mk (by omega)
      clear hout x3
      generalize hE : es[k] = E at *
      clear hE
      obtain ⟨ek, es2, en⟩ := E
      simp only at y0 y1 y2 ST
      by_cases hx : ek = key
      · have q1 : (ek != key) = false := by simp [hx]
        have q2 : (ek == key) = true := by simp [hx]
        rw [if_pos hx, List.append_nil] at ST
        have HST := Hid.mk ST
        clear ST hx
        go_wp2_with fail
        go_roundg (gk - 1)
        case measure => omega
        case rel => exact ⟨k + 1, out, by omega, by go_num, HST.out.symm, by omega, oo, kw⟩
      · have q1 : (ek != key) = true := by simp [hx]
        have q2 : (ek == key) = false := by simp [hx]
        rw [if_neg hx] at ST
        have HST := Hid.mk ST
        clear ST hx
        go_wp2_with (at_builtin; refine wpList_appS (by rfl) _ _ _ (by rfl) edgC Try.underlying65 inf102 rfl (by omega) edgC_length w.heap.size (by rfl) (oo.alloc _) wr.heap.size ⟨ek, es2, en⟩ (by rfl) (Arr.new wr 102 _) (edgC_one _) (by have := HOL.out; simp [maxLen]; omega) (by have := HOL.out; omega) (by simp; omega) ?_; intro v' w' hown' hgr hob)
        go_roundg (gk - 1)
        case measure => omega
        case rel => exact ⟨k + 1, out ++ [⟨ek, es2, en⟩], by omega, by go_num, HST.out.symm, by simp; omega, hown', (kw.alloc _).grown hgr (fun q hq => (oo.lt q hq).1)⟩
    · have j1 : ¬ (k : Int) < es.length := by omega
      rw [List.take_of_length_le (by omega)] at hout
      obtain ⟨oa, oc, hov, -, -, -⟩ := Es.of_own oo
      subst hov
      obtain ⟨fp', t, s⟩ := HSE.out wr out _ kw oo
      have HOUT := Hid.mk hout
      have HT := Hid.mk t
      have HS := Hid.mk s
      replace c0 := kw.cell c0
      replace n6 := kw.cell n6
      have hf := HFZ.out wr kw (d * 7 + 6)
      clear hout t s x3
      go_wp2_with fail
      go_end0
      rw [← HOUT.out]
      exact ⟨fp', rfl, HT.out, HS.out⟩
def insE (e : Edg) : List Edg → List Edg
  | [] => [e]
  | x :: l => if lessB e.key x.key = true then e :: x :: l else x :: insE e l
set_option maxRecDepth 3000 in
set_option maxHeartbeats 4000000 in
theorem attach_c (B gt d : Nat) (ek esl : List UInt8) (en : Nat) (fp : Nat → Prop) (T : List Nd) (w : World) (h : TreeW B fp w gt T) (hd : d < T.length) (hl : (at' T d).edges.length ≤ 1000000) (hkl : ek.length ≤ 1000000) (hks : ∀ x ∈ (at' T d).edges, x.key.length ≤ 1000000) :
    Calls Try.prog 97 #[.pointer (some ⟨gt, 0, none⟩), .int .i64 d, .agg #[str ek, str esl, .int .i64 (en : Nat)]] w fun r w' => RetT B fp w gt (T.set d { at' T d with edges := insE ⟨ek, esl, en⟩ (at' T d).edges }) (.returned (.tuple #[])) r w' := by
  have K0 := (Keep.refl w).alloc (.cells #[str ek, str esl, .int .i64 (en : Nat)] 102)
  have A0 : Arr (w.alloc (.cells #[str ek, str esl, .int .i64 (en : Nat)] 102)) w.heap.size 102 [str ek, str esl, .int .i64 (en : Nat)] := Arr.new w 102 _
  obtain ⟨bn, cap, dv, ev, c0, h1, h2, -, n6, -, oe, fz, fzk, SE, -⟩ := h.fresh hd
  obtain ⟨ea, ec, rfl, x1, x2, x3⟩ := Es.of_own oe
  have HSE := Hid.mk SE
  have HFZ := Hid.mk fzk
  have i1 : (d : Int) < T.length := by omega
  have i0 : (0 : Int) ≤ d := by omega
  unfold maxLen at h2 x2
  obtain ⟨es, hes⟩ : ∃ es, es = (at' T d).edges := ⟨_, rfl⟩
  rw [← hes] at x1 x3 hl n6 hks ⊢
  replace c0 := K0.cell c0
  replace n6 := K0.cell n6
  clear SE fz fzk oe h hes
  go_enter Try.func97, Try.ntmps97
  go_wp2_with fail
  obtain ⟨w0, hw0⟩ : ∃ w0, w0 = w.alloc (.cells #[str ek, str esl, .int .i64 (en : Nat)] 102) := ⟨_, rfl⟩
  rw [← hw0] at K0 A0 c0 n6
  rw [← hw0]
  clear hw0
  obtain ⟨gE, hgE⟩ : ∃ gE, gE = w.heap.size := ⟨_, rfl⟩
  rw [← hgE] at A0
  rw [← hgE]
  have HGE := Hid.mk hgE
  clear hgE
  go_loopg [7, 8, 9] es.length (fun gk nv pv iv wr => ∃ (k : Nat) (out : List Edg) (pl : Bool), k + gk = es.length ∧ iv = .int .i64 k ∧ pv = .bool pl ∧ out ++ (if pl then es.drop k else insE ⟨ek, esl, en⟩ (es.drop k)) = insE ⟨ek, esl, en⟩ es ∧ out.length ≤ 2 * k ∧ EdgO w0.heap.size wr nv out ∧ Keep w0 wr)
  case atStart => exact ⟨0, [], false, Nat.zero_add _, rfl, rfl, rfl, by simp, OwnS.nil _ _ _ _ _, Keep.refl _⟩
  case round => as_aux_lemma =>
    obtain ⟨k, out, pl, hk, rfl, rfl, hout, hol, oo, kw⟩ := hrel
    have hw : w0.heap.size ≤ wr.heap.size := kw.size
    have HOUT := Hid.mk hout
    have HOL : Hid (out.length ≤ 2000002) := Hid.mk (by omega)
    clear hout
    have AE := A0.keep kw
    have b0 := AE.cell 0
    have b1 := AE.cell 1
    have b2 := AE.cell 2
    simp only [List.getElem?_cons_zero, List.getElem?_cons_succ] at b0 b1 b2
    obtain ⟨W0, hW0⟩ : ∃ W0, W0 = wr := ⟨_, rfl⟩
    subst hW0
    by_cases hlt : k < es.length
    · have j1 : (k : Int) < es.length := by omega
      have j0 : (0 : Int) ≤ k := by omega
      obtain ⟨g, rfl, y0, y1, y2⟩ := x3 k hlt
      have Y0 := Hid.mk (K0.cell y0)
      have Y1 := Hid.mk (K0.cell y1)
      have Y2 := Hid.mk (K0.cell y2)
      replace y0 := kw.cell (K0.cell y0)
      replace y1 := kw.cell (K0.cell y1)
      replace y2 := kw.cell (K0.cell y2)
      have hxl := hks _ (List.getElem_mem hlt)
      have LC := fun W => less_c ek es[k].key W hkl hxl
      have hdr : es.drop k = es[k] :: es.drop (k + 1) := List.drop_eq_getElem_cons hlt
      obtain ⟨cd, hcd⟩ : ∃ cd, cd = (!pl && lessB ek es[k].key) := ⟨_, rfl⟩
      have HP : Hid (cd = true → (out ++ [⟨ek, esl, en⟩] ++ [es[k]]) ++ es.drop (k + 1) = insE ⟨ek, esl, en⟩ es) := Hid.mk (fun hc => by
        rw [hcd, Bool.and_eq_true] at hc
        have hpl : pl = false := by simpa using hc.1
        have h0 := HOUT.out
        rw [hpl, hdr, insE] at h0
        simp only [Bool.false_eq_true, if_false] at h0
        rw [if_pos hc.2] at h0
        rw [← h0]; simp)
      have HQ : Hid (cd = false → (out ++ [es[k]]) ++ (if pl then es.drop (k + 1) else insE ⟨ek, esl, en⟩ (es.drop (k + 1))) = insE ⟨ek, esl, en⟩ es) := Hid.mk (fun hc => by
        have h0 := HOUT.out
        rw [hdr] at h0
        cases hpl : pl with
        | true => rw [hpl] at h0; rw [← h0]; simp
        | false =>
          rw [hcd, hpl] at hc
          have hls : lessB ek es[k].key = false := by simpa using hc
          rw [hpl, insE] at h0
          simp only [Bool.false_eq_true, if_false] at h0
          rw [if_neg (by rw [hls]; decide)] at h0
          rw [← h0]; simp)
      have HCD := Hid.mk hcd
      clear x3 hcd hdr HOUT
      generalize hE : es[k] = E at *
      clear hE
      obtain ⟨fk, fs, fn⟩ := E
      simp only at y0 y1 y2 HP HQ HCD LC hxl Y0 Y1 Y2
      go_upto_region 7 with fail
      go_cut [35] from 18 to 46 (fun cv wx => cv = .bool cd ∧ Keep W0 wx)
      case first => as_aux_lemma =>
        cases pl with
        | true =>
          have e : cd = false := by rw [HCD.out]; rfl
          subst e
          clear LC
          go_quiet (fail)
          go_wp2_with fail
          go_meet
          case rel => exact ⟨rfl, ⟨rfl, rfl, rfl, Nat.le_refl _, fun _ _ => rfl⟩⟩
        | false =>
          have e : cd = lessB ek fk := by rw [HCD.out]; rfl
          have HE := Hid.mk e
          clear e
          go_region_held3 (fun W => W.cell? ⟨gE, 0, none⟩ = some (str ek) ∧ W.cell? ⟨g, k * 3, none⟩ = some (str fk))
            (first | assumption | exact ⟨b0, y0⟩ | exact ⟨Q1.cell b0, Q1.cell y0⟩)
            ((go_at_call 30; refine (LC _).mono ?_; rintro x y ⟨rfl, qq⟩; have Q1 : Keep W0 y := (Keep.refl W0).drew.trans qq))
          go_wp2_with fail
          go_meet
          case rel => rw [HE.out]; exact ⟨rfl, Q1⟩
      case rest => as_aux_lemma =>
        obtain ⟨rfl, k2⟩ := hcut
        replace b0 := k2.cell b0
        replace b1 := k2.cell b1
        replace b2 := k2.cell b2
        replace y0 := k2.cell y0
        replace y1 := k2.cell y1
        replace y2 := k2.cell y2
        have oo2 := oo.keep k2
        have kw2 := kw.trans k2
        have hw2 : w0.heap.size ≤ wc.heap.size := Nat.le_trans hw k2.size
        obtain ⟨W1, hW1⟩ : ∃ W1, W1 = wc := ⟨_, rfl⟩
        subst hW1
        cases cd with
        | true =>
          have HF := Hid.mk (HP.out rfl)
          clear HP HQ
          go_wp2_with (first
            | ((fail_if_success have := hown1); at_builtin; refine wpList_appS (by rfl) _ _ _ (by rfl) edgC Try.underlying65 inf102 rfl (by omega) edgC_length w0.heap.size (by rfl) (oo2.alloc _) W1.heap.size ⟨ek, esl, en⟩ (by rfl) (Arr.new W1 102 _) (edgC_one _) (by have := HOL.out; simp [maxLen]; omega) (by have := HOL.out; omega) (by simp; omega) ?_; intro v1 w1 hown1 hgr1 hob1; have k3 : Keep w0 w1 := (kw2.alloc _).grown hgr1 (fun q hq => (oo2.lt q hq).1); have hw3 := k3.size; have y3 := k3.cell Y0.out; have y4 := k3.cell Y1.out; have y5 := k3.cell Y2.out)
            | (at_builtin; refine wpList_appS (by rfl) _ _ _ (by rfl) edgC Try.underlying65 inf102 rfl (by omega) edgC_length w0.heap.size (by rfl) (hown1.alloc _) w1.heap.size ⟨fk, fs, fn⟩ (by rfl) (Arr.new w1 102 _) (edgC_one _) (by have := HOL.out; simp [maxLen]; omega) (by have := HOL.out; simp; omega) (by simp; omega) ?_; intro v2 w2 hown2 hgr2 hob2))
          go_roundg (gk - 1)
          case measure => omega
          case rel => exact ⟨k + 1, out ++ [⟨ek, esl, en⟩] ++ [⟨fk, fs, fn⟩], true, by omega, by go_num, rfl, HF.out, by simp; omega, hown2, (k3.alloc _).grown hgr2 (fun q hq => (hown1.lt q hq).1)⟩
        | false =>
          have HF := Hid.mk (HQ.out rfl)
          clear HP HQ
          go_wp2_with (at_builtin; refine wpList_appS (by rfl) _ _ _ (by rfl) edgC Try.underlying65 inf102 rfl (by omega) edgC_length w0.heap.size (by rfl) (oo2.alloc _) W1.heap.size ⟨fk, fs, fn⟩ (by rfl) (Arr.new W1 102 _) (edgC_one _) (by have := HOL.out; simp [maxLen]; omega) (by have := HOL.out; omega) (by simp; omega) ?_; intro v1 w1 hown1 hgr1 hob1)
          go_roundg (gk - 1)
          case measure => omega
          case rel => exact ⟨k + 1, out ++ [⟨fk, fs, fn⟩], pl, by omega, by go_num, rfl, HF.out, by simp; omega, hown1, (kw2.alloc _).grown hgr1 (fun q hq => (oo2.lt q hq).1)⟩
    · have j1 : ¬ (k : Int) < es.length := by omega
      have hdn : es.drop k = [] := List.drop_of_length_le (by omega)
      have HO2 : Hid (out ++ (if pl then [] else [⟨ek, esl, en⟩]) = insE ⟨ek, esl, en⟩ es) := Hid.mk (by have h0 := HOUT.out; rw [hdn] at h0; exact h0)
      have HC0 := Hid.mk (fun (W : World) (hk : Keep w0 W) => hk.cell c0)
      have HN6 := Hid.mk (fun (W : World) (hk : Keep w0 W) => hk.cell n6)
      replace c0 := kw.cell c0
      replace n6 := kw.cell n6
      have KW := K0.trans kw
      have hf := HFZ.out W0 KW (d * 7 + 6)
      have hB0 : w.heap.size ≤ w0.heap.size := K0.size
      clear HOUT hdn x3
      cases pl with
      | true =>
        obtain ⟨oa, oc, hov, -, -, -⟩ := Es.of_own oo
        subst hov
        obtain ⟨fp', t, s⟩ := HSE.out W0 out _ KW (oo.mono hB0)
        have HT := Hid.mk t
        have HS := Hid.mk s
        have HF : Hid (out = insE ⟨ek, esl, en⟩ es) := Hid.mk (by simpa using HO2.out)
        clear t s HO2
        go_wp2_with fail
        go_end0
        rw [← HF.out]
        exact ⟨fp', rfl, HT.out, HS.out⟩
      | false =>
        have HF : Hid (out ++ [⟨ek, esl, en⟩] = insE ⟨ek, esl, en⟩ es) := Hid.mk (by simpa using HO2.out)
        clear HO2
        go_upto_region 13 with (at_builtin; refine wpList_appS (by rfl) _ _ _ (by rfl) edgC Try.underlying65 inf102 rfl (by omega) edgC_length w0.heap.size (by rfl) (oo.alloc _) W0.heap.size ⟨ek, esl, en⟩ (by rfl) (Arr.new W0 102 _) (edgC_one _) (by have := HOL.out; simp [maxLen]; omega) (by have := HOL.out; omega) (by simp; omega) ?_; intro v1 w1 hown1 hgr1 hob1)
        have k1 : Keep w0 w1 := (kw.alloc _).grown hgr1 (fun q hq => (oo.lt q hq).1)
        have KW1 := K0.trans k1
        obtain ⟨oa, oc, hov, -, -, -⟩ := Es.of_own hown1
        subst hov
        obtain ⟨fp', t, s⟩ := HSE.out w1 _ _ KW1 (hown1.mono hB0)
        rw [List.length_append, List.length_singleton] at t s
        have HT := Hid.mk t
        have HS := Hid.mk s
        have hf1 := HFZ.out w1 KW1 (d * 7 + 6)
        have d0 := HC0.out w1 k1
        have d6 := HN6.out w1 k1
        clear t s hown1 hgr1 c0 n6 hf
        go_wp2_with fail
        go_end0
        rw [← HF.out]
        exact ⟨fp', rfl, HT.out, HS.out⟩
end Go.Proofs.Qxb6500767a
