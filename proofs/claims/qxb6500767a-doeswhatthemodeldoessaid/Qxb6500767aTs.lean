/- mutatem: Rename. -/
import Derived.Test.Qxb6500767aTq
namespace Go.Proofs.Qxb6500767a
open Go.RowKit Go.Qm
set_option linter.unusedVariables false
set_option linter.unusedSimpArgs false
attribute [local go_sem ↓] Go.wp_at_zero Go.wp_at_succ
/-- No edge of T1 but was one of T. -/
structure SubT (T1 T : List Nd) : Prop where
  len : T1.length = T.length
  few : ∀ i, (at' T1 i).edges.length ≤ (at' T i).edges.length
  mem : ∀ i, ∀ x ∈ (at' T1 i).edges, x ∈ (at' T i).edges
theorem SubT.refl (T : List Nd) : SubT T T := ⟨rfl, fun _ => Nat.le_refl _, fun _ _ h => h⟩
theorem SubT.trans {A B C : List Nd} (h : SubT A B) (k : SubT B C) : SubT A C := ⟨h.len.trans k.len, fun i => Nat.le_trans (h.few i) (k.few i), fun i x hx => k.mem i x (h.mem i x hx)⟩
theorem SubT.set {T : List Nd} {d : Nat} (hd : d < T.length) {x : Nd} (h1 : x.edges.length ≤ (at' T d).edges.length) (h2 : ∀ e ∈ x.edges, e ∈ (at' T d).edges) : SubT (T.set d x) T := by
  refine ⟨List.length_set, fun i => ?_, fun i e he => ?_⟩
  · by_cases ei : i = d
    · subst ei; rw [at_set hd]; exact h1
    · rw [at_set_ne (Ne.symm ei)]; exact Nat.le_refl _
  · by_cases ei : i = d
    · subst ei; rw [at_set hd] at he; exact h2 e he
    · rw [at_set_ne (Ne.symm ei)] at he; exact he
theorem sub_det {T : List Nd} {d : Nat} (hd : d < T.length) (key : List UInt8) : SubT (detT T d key) T :=
  SubT.set hd (List.length_filter_le _ _) (fun e he => (List.mem_filter.1 he).1)
theorem sub_drop {T : List Nd} {d n : Nat} (hd : d < T.length) (hn : n < T.length) (key : List UInt8) : SubT (dropT T d key n) T := by
  have h1 := sub_det hd key
  have hn1 : n < (detT T d key).length := by rw [h1.len]; exact hn
  have h2 : SubT (decL (detT T d key) n) (detT T d key) := SubT.set hn1 (Nat.le_refl _) (fun e he => he)
  have hn2 : n < (decL (detT T d key) n).length := by rw [h2.len]; exact hn1
  refine SubT.trans ?_ (h2.trans h1)
  unfold dropT reapF
  split
  · exact SubT.set hn2 (Nat.zero_le _) (fun e he => by cases he)
  · exact SubT.refl _
def finT (T1 : List Nd) (fd : Nat) (fk : List UInt8) (td : Nat) (tk nm : List UInt8) (n : Nat) : List Nd := (attT (detT T1 fd fk) td tk nm n).set n { at' (attT (detT T1 fd fk) td tk nm n) n with par := td }
/-- What Rename leaves, and answers. -/
def renF (T : List Nd) (f : Nat) (old path : List UInt8) : List Nd × Int :=
  if (parF T old).2.2.2 ≠ 0 then (T, (parF T old).2.2.2)
  else match findE (parF T old).2.2.1 (at' T (parF T old).1).edges with
    | none => (T, 6)
    | some i =>
      if (parF T path).2.2.2 ≠ 0 then (T, (parF T path).2.2.2)
      else if ((at' T (nxt T (parF T old).1 i)).kind = 2 ∧ wthB T f (parF T path).1 (nxt T (parF T old).1 i) = true) then (T, 2)
      else if ((parF T old).1 = (parF T path).1 ∧ (parF T old).2.2.1 = (parF T path).2.2.1) then (T.set (parF T old).1 { at' T (parF T old).1 with edges := splE (at' T (parF T old).1).edges i (parF T path).2.1 }, 0)
      else match findE (parF T path).2.2.1 (at' T (parF T path).1).edges with
        | none => (finT T (parF T old).1 (parF T old).2.2.1 (parF T path).1 (parF T path).2.2.1 (parF T path).2.1 (nxt T (parF T old).1 i), 0)
        | some j =>
          if nxt T (parF T path).1 j = nxt T (parF T old).1 i then (T, 0)
          else if (at' T (nxt T (parF T old).1 i)).kind = 2 ∧ (at' T (nxt T (parF T path).1 j)).kind ≠ 2 then (T, 7)
          else if (at' T (nxt T (parF T old).1 i)).kind ≠ 2 ∧ (at' T (nxt T (parF T path).1 j)).kind = 2 then (T, 8)
          else if (at' T (nxt T (parF T path).1 j)).edges ≠ [] then (T, 13)
          else (finT (dropT T (parF T path).1 (parF T path).2.2.1 (nxt T (parF T path).1 j)) (parF T old).1 (parF T old).2.2.1 (parF T path).1 (parF T path).2.2.1 (parF T path).2.1 (nxt T (parF T old).1 i), 0)
/-- The last three steps of Rename, from T1. -/
def FinP (B gt : Nat) (T : List Nd) (fd : Nat) (fk : List UInt8) (td : Nat) (tk nm : List UInt8) (n : Nat) (T1 : List Nd) : Prop :=
  ∀ fp1 W, TreeW B fp1 W gt T1 → Calls Try.prog 94 #[.pointer (some ⟨gt, 0, none⟩), .int .i64 fd, str fk] W (fun e w2 => e = .returned (.tuple #[]) ∧ ∃ fp2, Stp fp1 fp2 W w2 ∧
    Calls Try.prog 97 #[.pointer (some ⟨gt, 0, none⟩), .int .i64 td, .agg #[str tk, str nm, .int .i64 (n : Nat)]] w2 (fun e w3 => e = .returned (.tuple #[]) ∧ ∃ fp3, Stp fp2 fp3 w2 w3 ∧
      ∃ bn cap fp4, w3.cell? ⟨gt, 0, none⟩ = some (.slice (some ⟨bn, 0, none⟩) T.length cap) ∧ T.length ≤ cap ∧ cap ≤ 2 ^ 63 - 1 ∧ (∃ u, w3.cell? ⟨bn, n * 7 + 4, none⟩ = some u) ∧ w3.frozen? ⟨bn, n * 7 + 4, none⟩ = false ∧ Stp fp3 fp4 w3 (w3.setCell ⟨bn, n * 7 + 4, none⟩ (.int .i64 (td : Nat))) ∧ TreeW B fp4 (w3.setCell ⟨bn, n * 7 + 4, none⟩ (.int .i64 (td : Nat))) gt (finT T1 fd fk td tk nm n)))
theorem fin_p {B gt : Nat} {T T1 : List Nd} (lim : TLim T) (sub : SubT T1 T) {fd td n : Nat} (hfd : fd < T.length) (htd : td < T.length) (hn : n < T.length) (fk : List UInt8) {tk : List UInt8} (nm : List UInt8) (htk : tk.length ≤ 1000000) : FinP B gt T fd fk td tk nm n T1 := by
  intro fp1 W t1
  have hf1 : fd < T1.length := by rw [sub.len]; exact hfd
  refine (detach_c B gt fd fk fp1 T1 W t1 hf1 (Nat.le_trans (sub.few _) (lim.ok.few _ hfd))).mono ?_
  rintro e w2 ⟨fp2, rfl, t2, s2⟩
  refine ⟨rfl, fp2, s2, ?_⟩
  rw [show T1.set fd { at' T1 fd with edges := detE fk (at' T1 fd).edges } = detT T1 fd fk from rfl] at t2
  have sub2 := (sub_det hf1 fk).trans sub
  refine (attach_c B gt td tk nm n fp2 _ w2 t2 (by rw [sub2.len]; exact htd) (Nat.le_trans (sub2.few _) (lim.ok.few _ htd)) htk (fun x hx => lim.keys _ htd x (sub2.mem _ x hx))).mono ?_
  rintro e w3 ⟨fp3, rfl, t3, s3⟩
  rw [show (detT T1 fd fk).set td { at' (detT T1 fd fk) td with edges := insE ⟨tk, nm, n⟩ (at' (detT T1 fd fk) td).edges } = attT (detT T1 fd fk) td tk nm n from rfl] at t3
  have hl3 : (attT (detT T1 fd fk) td tk nm n).length = T.length := by unfold attT; rw [List.length_set, sub2.len]
  obtain ⟨bn, cap, c0, h1, h2, ⟨-, -, -, -, n4⟩, fz, -, -, -, np⟩ := t3.num (i := n) (by rw [hl3]; exact hn)
  obtain ⟨fp4, t4, s4⟩ := np td
  rw [hl3] at c0 h1
  exact ⟨rfl, fp3, s3, bn, cap, fp4, c0, h1, h2, ⟨_, n4⟩, fz _, s4, t4⟩
/-- The steps that drop the name key of d, its node n. -/
def DropP (B gt : Nat) (T : List Nd) (d : Nat) (key : List UInt8) (n : Nat) : Prop :=
  ∀ fp W, TreeW B fp W gt T → Calls Try.prog 94 #[.pointer (some ⟨gt, 0, none⟩), .int .i64 d, str key] W (fun e w2 => e = .returned (.tuple #[]) ∧ ∃ fp1 fp2 bn cap, Stp fp fp1 W w2 ∧
    w2.cell? ⟨gt, 0, none⟩ = some (.slice (some ⟨bn, 0, none⟩) T.length cap) ∧ T.length ≤ cap ∧ cap ≤ 2 ^ 63 - 1 ∧ w2.cell? ⟨bn, n * 7 + 2, none⟩ = some (.int .i64 ((at' T n).links : Nat)) ∧ w2.frozen? ⟨bn, n * 7 + 2, none⟩ = false ∧ Stp fp1 fp2 w2 (w2.setCell ⟨bn, n * 7 + 2, none⟩ (.int .i64 (((at' T n).links - 1 : Nat) : Nat))) ∧
      Calls Try.prog 95 #[.pointer (some ⟨gt, 0, none⟩), .int .i64 n] (w2.setCell ⟨bn, n * 7 + 2, none⟩ (.int .i64 (((at' T n).links - 1 : Nat) : Nat))) (fun e w' => RetT B fp2 (w2.setCell ⟨bn, n * 7 + 2, none⟩ (.int .i64 (((at' T n).links - 1 : Nat) : Nat))) gt (dropT T d key n) (.returned (.tuple #[])) e w'))
theorem drop_p {B gt : Nat} {T : List Nd} (lim : TLim T) {d n : Nat} (hd : d < T.length) (hn : n < T.length) (key : List UInt8) : DropP B gt T d key n := by
  intro fp W t
  refine (detach_c B gt d key fp T W t hd (lim.ok.few _ hd)).mono ?_
  rintro e w2 ⟨fp1, rfl, t1, s1⟩
  rw [show T.set d { at' T d with edges := detE key (at' T d).edges } = detT T d key from rfl] at t1
  have hD := detT_num hd key n
  have hDl := detT_length T d key
  obtain ⟨bn, cap, c0, h1, h2, ⟨-, -, n2, -, -⟩, fz, -, nl, -⟩ := t1.num (i := n) (by rw [hDl]; exact hn)
  obtain ⟨fp2, t2, s2⟩ := nl ((at' T n).links - 1)
  rw [hDl] at c0 h1
  rw [hD.1] at n2
  refine ⟨rfl, fp1, fp2, bn, cap, s1, c0, h1, h2, n2, fz _, s2, ?_⟩
  have := reap_c B gt n fp2 _ _ t2 (by rw [List.length_set, hDl]; exact hn)
  rw [show dropT T d key n = reapF ((detT T d key).set n { at' (detT T d key) n with links := (at' T n).links - 1 }) n from by unfold dropT decL; rw [hD.1]]
  exact this
set_option maxRecDepth 4000 in
set_option maxHeartbeats 8000000 in
theorem rename_c (B gt f : Nat) (old path : List UInt8) (fp : Nat → Prop) (T : List Nd) (w : World) (h : TreeW B fp w gt T) (lim : TLim T) (hup : ∀ d, d < T.length → upZ T f d) (ho : old.length ≤ 100000) (hl : path.length ≤ 100000) :
    Calls Try.prog 69 #[.pointer (some ⟨gt, 0, none⟩), str old, str path] w fun e w' => RetT B fp w gt (renF T f old path).1 (.returned (.int .i64 (renF T f old path).2)) e w' := by
  obtain ⟨R, hR⟩ : ∃ R, R = renF T f old path := ⟨_, rfl⟩
  rw [← hR]
  have ok := lim.ok
  have HTW := Hid.mk h
  have HL := Hid.mk lim
  have hp1 := parF_lt' ok old
  have hp2 := parF_lt' ok path
  have hpk := parF_key' (T := T) path
  have WP1 := walkParent_c gt T old w h.tr ok ho
  have WP2 := fun W (hk : Keep w W) => walkParent_c gt T path W (h.tr.keep hk) ok hl
  have FC1 := fun W (hk : Keep w W) => find_c gt (parF T old).1 T (parF T old).2.2.1 W (h.tr.keep hk) hp1 (ok.few _ hp1)
  have FC2 := fun W (hk : Keep w W) => find_c gt (parF T path).1 T (parF T path).2.2.1 W (h.tr.keep hk) hp2 (ok.few _ hp2)
  have RD := fun W (hk : Keep w W) => (h.tr.keep hk)
  unfold renF at hR
  unfold parV at WP1 WP2
  obtain ⟨⟨fd, fnm, fk, e1⟩, hpf⟩ : ∃ p, p = parF T old := ⟨_, rfl⟩
  rw [← hpf] at hp1 WP1 FC1 hR
  obtain ⟨⟨td, nm, tk, e2⟩, hpt⟩ : ∃ p, p = parF T path := ⟨_, rfl⟩
  rw [← hpt] at hp2 hpk WP2 FC2 hR
  simp only at hp1 hp2 hpk WP1 WP2 FC1 FC2 hR
  clear hpf hpt lim ok
  by_cases he1 : e1 = 0
  · subst he1
    rw [if_neg (by simp)] at hR
    cases hfe : findE fk (at' T fd).edges with
    | none =>
      rw [hfe] at hR FC1
      have HF := Hid.mk hR
      unfold optI at FC1
      clear hR hfe
      go_enter Try.func69, Try.ntmps69
      go_wp2_with fail
      refine WP1.mono ?_
      rintro e w1 ⟨rfl, k1⟩
      go_wp2_with fail
      refine (FC1 _ k1).mono ?_
      rintro e w2 ⟨rfl, rfl⟩
      go_wp2_with fail
      go_ret
      rw [HF.out]
      exact ⟨fp, rfl, HTW.out.keep k1, Stp.keep k1⟩
    | some i =>
      rw [hfe] at hR FC1
      simp only at hR
      unfold optI at FC1
      have hil := findE_lt hfe
      have hnode : (at' T fd).edges[i].node = nxt T fd i := by unfold nxt; rw [List.getD_eq_getElem?_getD, List.getElem?_eq_getElem hil]; rfl
      have hnl : nxt T fd i < T.length := by rw [← hnode]; exact HL.out.ok.edg fd hp1 _ (List.getElem_mem hil)
      have SPL := fun W (hk : Keep w W) => (HTW.out.keep hk).spell hp1 hil
      clear hfe
      go_enter Try.func69, Try.ntmps69
      go_wp2_with fail
      refine WP1.mono ?_
      rintro e w1 ⟨rfl, k1⟩
      go_wp2_with fail
      refine (FC1 _ k1).mono ?_
      rintro e w2 ⟨rfl, rfl⟩
      obtain ⟨bn, cap, c0, h1, h2, h3⟩ := RD w2 k1
      obtain ⟨dv, ev, -, -, -, -, -, -, n6, -, ea, ec, rfl, x1, x2, x3⟩ := h3 fd hp1
      obtain ⟨ge, rfl, -, -, x4⟩ := x3 i hil
      rw [hnode] at x4
      generalize hnx : nxt T fd i = n at *
      have i1 : (fd : Int) < T.length := by omega
      have i0 : (0 : Int) ≤ fd := by omega
      have j1 : (n : Int) < T.length := by omega
      have j0 : (0 : Int) ≤ n := by omega
      have l1 : (i : Int) < (at' T fd).edges.length := by omega
      have l0 : (0 : Int) ≤ i := by omega
      have t1 : (td : Int) < T.length := by omega
      have t0 : (0 : Int) ≤ td := by omega
      unfold maxLen at h2 x2
      clear h3 x3 hnx hnode
      go_wp2_with fail
      refine (WP2 _ k1).mono ?_
      rintro e w3 ⟨rfl, k3⟩
      have K3 := k1.trans k3
      clear c0 n6 x4 h1 h2 x1 x2
      by_cases he2 : e2 = 0
      · subst he2
        rw [if_neg (by simp)] at hR
        obtain ⟨bn, cap, c0, h1, h2, h3⟩ := RD w3 K3
        obtain ⟨dv2, ev2, m0, -⟩ := h3 n hnl
        have WI := within_c gt td n f T w3 (RD w3 K3) HL.out.ok hp2 (hup td hp2) hnl
        obtain ⟨kd, hkd⟩ : ∃ kd, kd = (at' T n).kind := ⟨_, rfl⟩
        rw [← hkd] at m0 hR
        have HKD := Hid.mk hkd
        generalize wthB T f td n = wt at *
        unfold maxLen at h2
        obtain ⟨kb, hkb⟩ : ∃ kb, kb = decide (kd = 2) := ⟨_, rfl⟩
        have zk : ((kd : Int) == 2) = kb := by rw [hkb]; by_cases hk2 : kd = 2 <;> simp [hk2]; omega
        have HKB := Hid.mk hkb
        clear h3 hkd hkb
        go_upto_region 12 with fail
        clear zk m0
        obtain ⟨cd, hcd⟩ : ∃ cd, cd = decide (kd = 2 ∧ wt = true) := ⟨_, rfl⟩
        have HCD := Hid.mk hcd
        clear hcd
        go_cut [75] from 69 to 75 (fun cv wx => cv = .bool cd ∧ wx = w3)
        case first => as_aux_lemma =>
          cases kb with
          | true =>
            have hk2 : kd = 2 := of_decide_eq_true HKB.out.symm
            have e : cd = wt := by rw [HCD.out]; cases wt <;> simp [hk2]
            have HE := Hid.mk e
            clear e hk2
            go_wp2_with fail
            refine WI.mono ?_
            rintro e w4 ⟨rfl, rfl⟩
            go_wp2_with fail
            go_meet
            case rel => rw [HE.out]; exact ⟨rfl, rfl⟩
          | false =>
            have hk2 : ¬ kd = 2 := of_decide_eq_false HKB.out.symm
            have e : cd = false := by rw [HCD.out]; simp [hk2]
            subst e
            clear hk2
            go_wp2_with fail
            go_meet
            case rel => exact ⟨rfl, rfl⟩
        case rest =>
          obtain ⟨rfl, rfl⟩ := hcut
          obtain ⟨W3, hW3⟩ : ∃ W3, W3 = wc := ⟨_, rfl⟩
          subst hW3
          clear WI
          cases cd with
          | true =>
            rw [if_pos (of_decide_eq_true HCD.out.symm)] at hR
            have HF := Hid.mk hR
            clear hR
            go_wp2_with fail
            go_ret
            rw [HF.out]
            exact ⟨fp, rfl, HTW.out.keep K3, Stp.keep K3⟩
          | false =>
            rw [if_neg (of_decide_eq_false HCD.out.symm)] at hR
            clear HCD
            go_upto_region 14 with fail
            obtain ⟨ce, hce⟩ : ∃ ce, ce = decide (fd = td ∧ fk = tk) := ⟨_, rfl⟩
            have HCE := Hid.mk hce
            clear hce
            go_cut [83] from 76 to 83 (fun cv wx => cv = .bool ce ∧ wx = W3)
            case first => as_aux_lemma =>
              by_cases hd : fd = td
              · have z1 : ((fd : Int) == td) = true := by simp [hd]
                have e : ce = (fk == tk) := by rw [HCE.out]; by_cases hk : fk = tk <;> simp [hd, hk]
                have HE := Hid.mk e
                obtain ⟨b, hb⟩ : ∃ b, b = (fk == tk) := ⟨_, rfl⟩
                have z2 : (fk == tk) = b := hb.symm
                have HB := Hid.mk hb
                clear e hd hb
                go_wp2_with fail
                go_meet
                case rel => rw [HE.out, HB.out]; exact ⟨rfl, rfl⟩
              · have z1 : ((fd : Int) == td) = false := by simp; omega
                have e : ce = false := by rw [HCE.out]; simp [hd]
                subst e
                clear hd
                go_wp2_with fail
                go_meet
                case rel => exact ⟨rfl, rfl⟩
            case rest =>
              obtain ⟨rfl, rfl⟩ := hcut
              obtain ⟨W4, hW4⟩ : ∃ W4, W4 = wc := ⟨_, rfl⟩
              subst hW4
              cases ce with
              | true =>
                rw [if_pos (of_decide_eq_true HCE.out.symm)] at hR
                have HF := Hid.mk hR
                obtain ⟨bn5, cap5, ge5, ec5, d0, g1, g2, d6, g3, g4, ⟨u5, d1⟩, f5, SW⟩ := SPL W4 K3
                obtain ⟨tw, sw⟩ := SW nm
                have HT := Hid.mk tw
                have HS := Hid.mk sw
                unfold maxLen at g2 g4
                clear hR SW tw sw SPL c0 h1 h2
                go_wp2_with fail
                go_ret
                rw [HF.out]
                exact ⟨fp, rfl, HT.out, (Stp.keep K3).trans HS.out⟩
              | false =>
                rw [if_neg (of_decide_eq_false HCE.out.symm)] at hR
                clear HCE SPL c0 h1 h2
                obtain ⟨fo, hfo⟩ : ∃ fo, fo = findE tk (at' T td).edges := ⟨_, rfl⟩
                have F2 := FC2 W4 K3
                rw [← hfo] at F2 hR
                have HFO := Hid.mk hfo
                have FINP := fun T1 (sub : SubT T1 T) => fin_p (B := B) (gt := gt) HL.out sub hp1 hp2 hnl fk nm (tk := tk) (by omega)
                clear hfo FC2 FC1 WP1 WP2
                go_wp2_with fail
                refine F2.mono ?_
                rintro e w5 ⟨rfl, rfl⟩
                obtain ⟨W5, hW5⟩ : ∃ W5, W5 = w5 := ⟨_, rfl⟩
                subst hW5
                have HRR := Hid.mk hR
                clear hR F2
                go_upto_if 101 with fail
                go_cut [18, 19] from 100 to 163 (fun _ _ wx => ∃ fp1 T1, TreeW B fp1 wx gt T1 ∧ Stp fp fp1 w wx ∧ SubT T1 T ∧ R = (finT T1 fd fk td tk nm n, 0))
                case first =>
                  cases fo with
                  | none =>
                    have HF := Hid.mk HRR.out
                    unfold optI
                    clear HRR
                    go_wp2_with fail
                    go_meet
                    case rel => exact ⟨fp, T, HTW.out.keep K3, Stp.keep K3, SubT.refl T, HF.out⟩
                  | some j =>
                    have hR := HRR.out
                    simp only at hR
                    unfold optI
                    have hjl := findE_lt HFO.out.symm
                    have hnode : (at' T td).edges[j].node = nxt T td j := by unfold nxt; rw [List.getD_eq_getElem?_getD, List.getElem?_eq_getElem hjl]; rfl
                    have hvl : nxt T td j < T.length := by rw [← hnode]; exact HL.out.ok.edg td hp2 _ (List.getElem_mem hjl)
                    have hlk1 : 1 ≤ (at' T (nxt T td j)).links := by rw [← hnode]; exact HL.out.held td hp2 _ (List.getElem_mem hjl)
                    have hlk2 := HL.out.links _ hvl
                    obtain ⟨bn, cap, c0, h1, h2, h3⟩ := RD W5 K3
                    obtain ⟨dv, ev, -, -, -, -, -, -, n6, -, ea, ec, rfl, x1, x2, x3⟩ := h3 td hp2
                    obtain ⟨ge, rfl, -, -, x4⟩ := x3 j hjl
                    rw [hnode] at x4
                    have DP := drop_p (B := B) (gt := gt) HL.out hp2 hvl tk fp W5 (HTW.out.keep K3)
                    generalize hnx : nxt T td j = v at *
                    obtain ⟨dv2, ev2, m0, -, -, -, -, -, m6, -, e2a, e2c, rfl, -, x5, -⟩ := h3 v hvl
                    have v1 : (v : Int) < T.length := by omega
                    have v0 : (0 : Int) ≤ v := by omega
                    have jl1 : (j : Int) < (at' T td).edges.length := by omega
                    have jl0 : (0 : Int) ≤ j := by omega
                    unfold maxLen at h2 x2 x5
                    clear h3 x3 hnx hnode HRR FINP
                    by_cases hvn : v = n
                    · rw [if_pos hvn] at hR
                      have HF := Hid.mk hR
                      have z1 : ((v : Int) == n) = true := by simp [hvn]
                      clear hR hvn
                      go_wp2_with fail
                      go_ret
                      rw [HF.out]
                      exact ⟨fp, rfl, HTW.out.keep K3, Stp.keep K3⟩
                    · rw [if_neg hvn] at hR
                      have z1 : ((v : Int) == n) = false := by simp; omega
                      clear hvn
                      obtain ⟨kv2, hkv⟩ : ∃ kv2, kv2 = decide ((at' T v).kind = 2) := ⟨_, rfl⟩
                      have zv : (((at' T v).kind : Int) == 2) = kv2 := by rw [hkv]; by_cases hk2 : (at' T v).kind = 2 <;> simp [hk2]; omega
                      cases kb with
                      | true =>
                        have hk : kd = 2 := of_decide_eq_true HKB.out.symm
                        cases kv2 with
                        | true =>
                          have hv : (at' T v).kind = 2 := of_decide_eq_true hkv.symm
                          rw [if_neg (fun a => a.2 hv), if_neg (fun a => a.1 hk)] at hR
                          clear hk hv hkv HKB HKD
                          by_cases hz : (at' T v).edges = []
                          · rw [if_neg (by simpa using hz)] at hR
                            have HF := Hid.mk hR
                            have hz0 : (at' T v).edges.length = 0 := by rw [hz]; rfl
                            rw [hz0] at m6
                            have e5 : IntKind.i64.wrap (((at' T v).links : Int) - 1) = (((at' T v).links - 1 : Nat) : Int) := by rw [IntKind.wrap_i64] <;> omega
                            have HSUB := Hid.mk (sub_drop hp2 hvl tk)
                            clear hR hz hz0
                            generalize hTd : dropT T td tk v = Td at *
                            generalize (at' T v).links - 1 = lk1 at *
                            generalize (at' T v).links = lk0 at *
                            go_wp2_with fail
                            refine DP.mono ?_
                            rintro e w6 ⟨rfl, fp1, fp2, bn6, cap6, s1, d0, g1, g2, d2, f2, s2, RC⟩
                            have HS := Hid.mk ((Stp.keep K3).trans (s1.trans s2))
                            clear s1 s2 c0 n6 x4 m0 m6 hTd
                            go_wp2_with fail
                            refine RC.mono ?_
                            rintro e w7 ⟨fp3, rfl, t3, s3⟩
                            go_wp2_with fail
                            go_meet
                            case rel => exact ⟨fp3, Td, t3, HS.out.trans s3, HSUB.out, HF.out⟩
                          · rw [if_pos hz] at hR
                            have HF := Hid.mk hR
                            have hz0 : ((at' T v).edges.length : Int) > 0 := by
                              have : (at' T v).edges.length ≠ 0 := fun e => hz (List.eq_nil_of_length_eq_zero e)
                              omega
                            clear hR hz
                            go_wp2_with fail
                            go_ret
                            rw [HF.out]
                            exact ⟨fp, rfl, HTW.out.keep K3, Stp.keep K3⟩
                        | false =>
                          have hv : ¬ (at' T v).kind = 2 := of_decide_eq_false hkv.symm
                          rw [if_pos ⟨hk, hv⟩] at hR
                          have HF := Hid.mk hR
                          clear hR hk hv hkv HKB HKD
                          go_wp2_with fail
                          go_ret
                          rw [HF.out]
                          exact ⟨fp, rfl, HTW.out.keep K3, Stp.keep K3⟩
                      | false =>
                        have hk : ¬ kd = 2 := of_decide_eq_false HKB.out.symm
                        cases kv2 with
                        | true =>
                          have hv : (at' T v).kind = 2 := of_decide_eq_true hkv.symm
                          rw [if_neg (fun a => hk a.1), if_pos ⟨hk, hv⟩] at hR
                          have HF := Hid.mk hR
                          clear hR hk hv hkv HKB HKD
                          go_wp2_with fail
                          go_ret
                          rw [HF.out]
                          exact ⟨fp, rfl, HTW.out.keep K3, Stp.keep K3⟩
                        | false =>
                          have hv : ¬ (at' T v).kind = 2 := of_decide_eq_false hkv.symm
                          rw [if_neg (fun a => hk a.1), if_neg (fun a => hv a.2)] at hR
                          clear hk hv hkv HKB HKD
                          by_cases hz : (at' T v).edges = []
                          · rw [if_neg (by simpa using hz)] at hR
                            have HF := Hid.mk hR
                            have hz0 : (at' T v).edges.length = 0 := by rw [hz]; rfl
                            rw [hz0] at m6
                            have e5 : IntKind.i64.wrap (((at' T v).links : Int) - 1) = (((at' T v).links - 1 : Nat) : Int) := by rw [IntKind.wrap_i64] <;> omega
                            have HSUB := Hid.mk (sub_drop hp2 hvl tk)
                            clear hR hz hz0
                            generalize hTd : dropT T td tk v = Td at *
                            generalize (at' T v).links - 1 = lk1 at *
                            generalize (at' T v).links = lk0 at *
                            go_wp2_with fail
                            refine DP.mono ?_
                            rintro e w6 ⟨rfl, fp1, fp2, bn6, cap6, s1, d0, g1, g2, d2, f2, s2, RC⟩
                            have HS := Hid.mk ((Stp.keep K3).trans (s1.trans s2))
                            clear s1 s2 c0 n6 x4 m0 m6 hTd
                            go_wp2_with fail
                            refine RC.mono ?_
                            rintro e w7 ⟨fp3, rfl, t3, s3⟩
                            go_wp2_with fail
                            go_meet
                            case rel => exact ⟨fp3, Td, t3, HS.out.trans s3, HSUB.out, HF.out⟩
                          · rw [if_pos hz] at hR
                            have HF := Hid.mk hR
                            have hz0 : ((at' T v).edges.length : Int) > 0 := by
                              have : (at' T v).edges.length ≠ 0 := fun e => hz (List.eq_nil_of_length_eq_zero e)
                              omega
                            clear hR hz
                            go_wp2_with fail
                            go_ret
                            rw [HF.out]
                            exact ⟨fp, rfl, HTW.out.keep K3, Stp.keep K3⟩
                case rest =>
                  obtain ⟨fp1, T1, tT, sT, sub, hRR⟩ := hcut
                  have FP := FINP T1 sub fp1 wc tT
                  have HF := Hid.mk hRR
                  have HS := Hid.mk sT
                  clear hRR sT tT FINP HRR
                  obtain ⟨W8, hW8⟩ : ∃ W8, W8 = wc := ⟨_, rfl⟩
                  subst hW8
                  go_wp2_with fail
                  refine FP.mono ?_
                  rintro e w9 ⟨rfl, fp2, s2, AC⟩
                  go_wp2_with fail
                  refine AC.mono ?_
                  rintro e w10 ⟨rfl, fp3, s3, bn9, cap9, fp4, d0, g1, g2, ⟨u4, d4⟩, f4, s4, t4⟩
                  have HS4 := Hid.mk (HS.out.trans (s2.trans (s3.trans s4)))
                  have HT4 := Hid.mk t4
                  clear s2 s3 s4 t4 AC
                  go_wp2_with fail
                  go_ret
                  rw [HF.out]
                  exact ⟨fp4, rfl, HT4.out, HS4.out⟩
      · rw [if_pos he2] at hR
        have HF := Hid.mk hR
        have q2 : (e2 != 0) = true := by simp [he2]
        clear hR
        go_wp2_with fail
        go_ret
        rw [HF.out]
        exact ⟨fp, rfl, HTW.out.keep K3, Stp.keep K3⟩
  · rw [if_pos he1] at hR
    have HF := Hid.mk hR
    have q1 : (e1 != 0) = true := by simp [he1]
    clear hR
    go_enter Try.func69, Try.ntmps69
    go_wp2_with fail
    refine WP1.mono ?_
    rintro e w1 ⟨rfl, k1⟩
    go_wp2_with fail
    go_ret
    rw [HF.out]
    exact ⟨fp, rfl, HTW.out.keep k1, Stp.keep k1⟩
end Go.Proofs.Qxb6500767a
