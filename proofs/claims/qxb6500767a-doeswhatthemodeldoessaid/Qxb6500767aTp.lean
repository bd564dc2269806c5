/- mutatem: Unlink, Rmdir. -/
import Derived.Test.Qxb6500767aTo
namespace Go.Proofs.Qxb6500767a
open Go.RowKit Go.Qm
set_option linter.unusedVariables false
set_option linter.unusedSimpArgs false
attribute [local go_sem ↓] Go.wp_at_zero Go.wp_at_succ
def detT (T : List Nd) (d : Nat) (key : List UInt8) : List Nd := T.set d { at' T d with edges := detE key (at' T d).edges }
def decL (T : List Nd) (n : Nat) : List Nd := T.set n { at' T n with links := (at' T n).links - 1 }
def dropT (T : List Nd) (d : Nat) (key : List UInt8) (n : Nat) : List Nd := reapF (decL (detT T d key) n) n
theorem detT_length (T : List Nd) (d : Nat) (key : List UInt8) : (detT T d key).length = T.length := List.length_set
theorem detT_num {T : List Nd} {d : Nat} (hd : d < T.length) (key : List UInt8) (i : Nat) : (at' (detT T d key) i).links = (at' T i).links ∧ (at' (detT T d key) i).opens = (at' T i).opens ∧ (at' (detT T d key) i).kind = (at' T i).kind := by
  unfold detT
  by_cases e : i = d
  · subst e; rw [at_set hd]; exact ⟨rfl, rfl, rfl⟩
  · rw [at_set_ne (Ne.symm e)]; exact ⟨rfl, rfl, rfl⟩
def unlT (T : List Nd) (path : List UInt8) : List Nd × Int :=
  if (parF T path).2.2.2 ≠ 0 then (T, (parF T path).2.2.2)
  else match findE (parF T path).2.2.1 (at' T (parF T path).1).edges with
    | none => (T, 6)
    | some i => if (at' T (nxt T (parF T path).1 i)).kind = 2 then (T, 8) else (dropT T (parF T path).1 (parF T path).2.2.1 (nxt T (parF T path).1 i), 0)
def rmdT (T : List Nd) (path : List UInt8) : List Nd × Int :=
  if (parF T path).2.2.2 ≠ 0 then (T, (parF T path).2.2.2)
  else match findE (parF T path).2.2.1 (at' T (parF T path).1).edges with
    | none => (T, 6)
    | some i => if (at' T (nxt T (parF T path).1 i)).kind ≠ 2 then (T, 7) else if (at' T (nxt T (parF T path).1 i)).edges ≠ [] then (T, 13) else (dropT T (parF T path).1 (parF T path).2.2.1 (nxt T (parF T path).1 i), 0)
set_option maxRecDepth 3000 in
set_option maxHeartbeats 4000000 in
theorem unlink_c (B gt : Nat) (path : List UInt8) (fp : Nat → Prop) (T : List Nd) (w : World) (h : TreeW B fp w gt T) (lim : TLim T) (hl : path.length ≤ 100000) :
    Calls Try.prog 67 #[.pointer (some ⟨gt, 0, none⟩), str path] w fun e w' => RetT B fp w gt (unlT T path).1 (.returned (.int .i64 (unlT T path).2)) e w' := by
  obtain ⟨R, hR⟩ : ∃ R, R = unlT T path := ⟨_, rfl⟩
  rw [← hR]
  have ok := lim.ok
  have HTW := Hid.mk h
  have HL := Hid.mk lim
  have hp1 := parF_lt' ok path
  have WP := walkParent_c gt T path w h.tr ok hl
  have FC := fun W (hk : Keep w W) => find_c gt (parF T path).1 T (parF T path).2.2.1 W (h.tr.keep hk) hp1 (ok.few _ hp1)
  unfold unlT at hR
  unfold parV at WP
  obtain ⟨⟨dir, nm, key, er⟩, hpf⟩ : ∃ p, p = parF T path := ⟨_, rfl⟩
  rw [← hpf] at hp1 WP FC hR
  simp only at hp1 WP FC hR
  clear hpf lim ok
  by_cases her : er = 0
  · subst her
    rw [if_neg (by simp)] at hR
    cases hfe : findE key (at' T dir).edges with
    | none =>
      rw [hfe] at hR FC
      have HF := Hid.mk hR
      unfold optI at FC
      clear hR hfe
      go_enter Try.func67, Try.ntmps67
      go_wp2_with fail
      refine WP.mono ?_
      rintro e w1 ⟨rfl, k1⟩
      go_wp2_with fail
      refine (FC _ k1).mono ?_
      rintro e w2 ⟨rfl, rfl⟩
      go_wp2_with fail
      go_ret
      rw [HF.out]
      exact ⟨fp, rfl, HTW.out.keep k1, Stp.keep k1⟩
    | some i =>
      rw [hfe] at hR FC
      simp only at hR
      unfold optI at FC
      have hil := findE_lt hfe
      have hnode : (at' T dir).edges[i].node = nxt T dir i := by unfold nxt; rw [List.getD_eq_getElem?_getD, List.getElem?_eq_getElem hil]; rfl
      have hnl : nxt T dir i < T.length := by rw [← hnode]; exact HL.out.ok.edg dir hp1 _ (List.getElem_mem hil)
      have hlk1 : 1 ≤ (at' T (nxt T dir i)).links := by rw [← hnode]; exact HL.out.held dir hp1 _ (List.getElem_mem hil)
      have hlk2 := HL.out.links _ hnl
      have hiT : i < (at' T dir).edges.length := hil
      have RD := fun W (hk : Keep w W) => (h.tr.keep hk)
      have hfew := HL.out.ok.few dir hp1
      clear hfe
      go_enter Try.func67, Try.ntmps67
      go_wp2_with fail
      refine WP.mono ?_
      rintro e w1 ⟨rfl, k1⟩
      go_wp2_with fail
      refine (FC _ k1).mono ?_
      rintro e w2 ⟨rfl, rfl⟩
      obtain ⟨bn, cap, c0, h1, h2, h3⟩ := RD w2 k1
      obtain ⟨dv, ev, -, -, -, -, -, -, n6, -, ea, ec, rfl, x1, x2, x3⟩ := h3 dir hp1
      obtain ⟨ge, rfl, -, -, x4⟩ := x3 i hil
      rw [hnode] at x4
      generalize hnx : nxt T dir i = n at *
      obtain ⟨dv2, ev2, m0, -, -, -, -, -, m6, -, e2a, e2c, rfl, -, x5, -⟩ := h3 n hnl
      have i1 : (dir : Int) < T.length := by omega
      have i0 : (0 : Int) ≤ dir := by omega
      have j1 : (n : Int) < T.length := by omega
      have j0 : (0 : Int) ≤ n := by omega
      have l1 : (i : Int) < (at' T dir).edges.length := by omega
      have l0 : (0 : Int) ≤ i := by omega
      unfold maxLen at h2 x2 x5
      have TW2 := HTW.out.keep k1
      have DC := detach_c B gt dir key fp T w2 TW2 hp1 hfew
      rw [show T.set dir { at' T dir with edges := detE key (at' T dir).edges } = detT T dir key from rfl] at DC
      have hD := detT_num hp1 key n
      have hDl := detT_length T dir key
      have TAIL : ∀ fp1 W, TreeW B fp1 W gt (detT T dir key) → ∃ bn cap, W.cell? ⟨gt, 0, none⟩ = some (.slice (some ⟨bn, 0, none⟩) T.length cap) ∧ T.length ≤ cap ∧ cap ≤ 2 ^ 63 - 1 ∧ W.cell? ⟨bn, n * 7 + 2, none⟩ = some (.int .i64 ((at' T n).links : Nat)) ∧ W.frozen? ⟨bn, n * 7 + 2, none⟩ = false ∧ ∃ fp2, Stp fp1 fp2 W (W.setCell ⟨bn, n * 7 + 2, none⟩ (.int .i64 (((at' T n).links - 1 : Nat) : Nat))) ∧ Calls Try.prog 95 #[.pointer (some ⟨gt, 0, none⟩), .int .i64 n] (W.setCell ⟨bn, n * 7 + 2, none⟩ (.int .i64 (((at' T n).links - 1 : Nat) : Nat))) (fun e w' => RetT B fp2 (W.setCell ⟨bn, n * 7 + 2, none⟩ (.int .i64 (((at' T n).links - 1 : Nat) : Nat))) gt (dropT T dir key n) (.returned (.tuple #[])) e w') := by
        intro fp1 W t1
        obtain ⟨bn, cap, c0, h1, h2, ⟨-, -, n2, -, -⟩, fz, -, nl, -⟩ := t1.num (i := n) (by rw [hDl]; exact hnl)
        obtain ⟨fp2, t2, s2⟩ := nl ((at' T n).links - 1)
        rw [hDl] at c0 h1
        rw [hD.1] at n2
        refine ⟨bn, cap, c0, h1, h2, n2, fz _, fp2, s2, ?_⟩
        have := reap_c B gt n fp2 _ _ t2 (by rw [List.length_set, hDl]; exact hnl)
        rw [show dropT T dir key n = reapF ((detT T dir key).set n { at' (detT T dir key) n with links := (at' T n).links - 1 }) n from by unfold dropT decL; rw [hD.1]]
        exact this
      have HTL := Hid.mk TAIL
      clear TAIL h3 x3 RD TW2 hD hDl hfew hnx hnode
      by_cases hk : (at' T n).kind = 2
      · rw [if_pos hk] at hR
        have HF := Hid.mk hR
        have q1 : (((at' T n).kind : Int) == 2) = true := by simp [hk]
        clear hR hk
        go_wp2_with fail
        go_ret
        rw [HF.out]
        exact ⟨fp, rfl, HTW.out.keep k1, Stp.keep k1⟩
      · rw [if_neg hk] at hR
        have HF := Hid.mk hR
        have q1 : (((at' T n).kind : Int) == 2) = false := by simp; omega
        clear hR hk
        go_wp2_with fail
        refine DC.mono ?_
        rintro e w3 ⟨fp1, rfl, t1, s1⟩
        obtain ⟨bn3, cap3, d0, g1, g2, d2, f2, fp2, s2, RC⟩ := HTL.out fp1 w3 t1
        have e5 : IntKind.i64.wrap (((at' T n).links : Int) - 1) = (((at' T n).links - 1 : Nat) : Int) := by rw [IntKind.wrap_i64] <;> omega
        have HS := Hid.mk (s1.trans s2)
        generalize (at' T n).links - 1 = lk1 at *
        generalize (at' T n).links = lk0 at *
        generalize dropT T dir key n = T2 at *
        clear c0 n6 x4 m0 m6 t1 s1 s2 HTL DC
        go_wp2_with fail
        refine RC.mono ?_
        rintro e w4 ⟨fp3, rfl, t3, s3⟩
        go_wp2_with fail
        go_ret
        rw [HF.out]
        exact ⟨fp3, rfl, t3, (Stp.keep k1).trans (HS.out.trans s3)⟩
  · rw [if_pos her] at hR
    have HF := Hid.mk hR
    have q1 : (er != 0) = true := by simp [her]
    clear hR
    go_enter Try.func67, Try.ntmps67
    go_wp2_with fail
    refine WP.mono ?_
    rintro e w1 ⟨rfl, k1⟩
    go_wp2_with fail
    go_ret
    rw [HF.out]
    exact ⟨fp, rfl, HTW.out.keep k1, Stp.keep k1⟩
set_option maxRecDepth 3000 in
set_option maxHeartbeats 4000000 in
theorem rmdir_c (B gt : Nat) (path : List UInt8) (fp : Nat → Prop) (T : List Nd) (w : World) (h : TreeW B fp w gt T) (lim : TLim T) (hl : path.length ≤ 100000) :
    Calls Try.prog 68 #[.pointer (some ⟨gt, 0, none⟩), str path] w fun e w' => RetT B fp w gt (rmdT T path).1 (.returned (.int .i64 (rmdT T path).2)) e w' := by
  obtain ⟨R, hR⟩ : ∃ R, R = rmdT T path := ⟨_, rfl⟩
  rw [← hR]
  have ok := lim.ok
  have HTW := Hid.mk h
  have HL := Hid.mk lim
  have hp1 := parF_lt' ok path
  have WP := walkParent_c gt T path w h.tr ok hl
  have FC := fun W (hk : Keep w W) => find_c gt (parF T path).1 T (parF T path).2.2.1 W (h.tr.keep hk) hp1 (ok.few _ hp1)
  unfold rmdT at hR
  unfold parV at WP
  obtain ⟨⟨dir, nm, key, er⟩, hpf⟩ : ∃ p, p = parF T path := ⟨_, rfl⟩
  rw [← hpf] at hp1 WP FC hR
  simp only at hp1 WP FC hR
  clear hpf lim ok
  by_cases her : er = 0
  · subst her
    rw [if_neg (by simp)] at hR
    cases hfe : findE key (at' T dir).edges with
    | none =>
      rw [hfe] at hR FC
      have HF := Hid.mk hR
      unfold optI at FC
      clear hR hfe
      go_enter Try.func68, Try.ntmps68
      go_wp2_with fail
      refine WP.mono ?_
      rintro e w1 ⟨rfl, k1⟩
      go_wp2_with fail
      refine (FC _ k1).mono ?_
      rintro e w2 ⟨rfl, rfl⟩
      go_wp2_with fail
      go_ret
      rw [HF.out]
      exact ⟨fp, rfl, HTW.out.keep k1, Stp.keep k1⟩
    | some i =>
      rw [hfe] at hR FC
      simp only at hR
      unfold optI at FC
      have hil := findE_lt hfe
      have hnode : (at' T dir).edges[i].node = nxt T dir i := by unfold nxt; rw [List.getD_eq_getElem?_getD, List.getElem?_eq_getElem hil]; rfl
      have hnl : nxt T dir i < T.length := by rw [← hnode]; exact HL.out.ok.edg dir hp1 _ (List.getElem_mem hil)
      have hlk1 : 1 ≤ (at' T (nxt T dir i)).links := by rw [← hnode]; exact HL.out.held dir hp1 _ (List.getElem_mem hil)
      have hlk2 := HL.out.links _ hnl
      have hiT : i < (at' T dir).edges.length := hil
      have RD := fun W (hk : Keep w W) => (h.tr.keep hk)
      have hfew := HL.out.ok.few dir hp1
      clear hfe
      go_enter Try.func68, Try.ntmps68
      go_wp2_with fail
      refine WP.mono ?_
      rintro e w1 ⟨rfl, k1⟩
      go_wp2_with fail
      refine (FC _ k1).mono ?_
      rintro e w2 ⟨rfl, rfl⟩
      obtain ⟨bn, cap, c0, h1, h2, h3⟩ := RD w2 k1
      obtain ⟨dv, ev, -, -, -, -, -, -, n6, -, ea, ec, rfl, x1, x2, x3⟩ := h3 dir hp1
      obtain ⟨ge, rfl, -, -, x4⟩ := x3 i hil
      rw [hnode] at x4
      generalize hnx : nxt T dir i = n at *
      obtain ⟨dv2, ev2, m0, -, -, -, -, -, m6, -, e2a, e2c, rfl, -, x5, -⟩ := h3 n hnl
      have i1 : (dir : Int) < T.length := by omega
      have i0 : (0 : Int) ≤ dir := by omega
      have j1 : (n : Int) < T.length := by omega
      have j0 : (0 : Int) ≤ n := by omega
      have l1 : (i : Int) < (at' T dir).edges.length := by omega
      have l0 : (0 : Int) ≤ i := by omega
      unfold maxLen at h2 x2 x5
      have TW2 := HTW.out.keep k1
      have DC := detach_c B gt dir key fp T w2 TW2 hp1 hfew
      rw [show T.set dir { at' T dir with edges := detE key (at' T dir).edges } = detT T dir key from rfl] at DC
      have hD := detT_num hp1 key n
      have hDl := detT_length T dir key
      have TAIL : ∀ fp1 W, TreeW B fp1 W gt (detT T dir key) → ∃ bn cap, W.cell? ⟨gt, 0, none⟩ = some (.slice (some ⟨bn, 0, none⟩) T.length cap) ∧ T.length ≤ cap ∧ cap ≤ 2 ^ 63 - 1 ∧ W.cell? ⟨bn, n * 7 + 2, none⟩ = some (.int .i64 ((at' T n).links : Nat)) ∧ W.frozen? ⟨bn, n * 7 + 2, none⟩ = false ∧ ∃ fp2, Stp fp1 fp2 W (W.setCell ⟨bn, n * 7 + 2, none⟩ (.int .i64 (((at' T n).links - 1 : Nat) : Nat))) ∧ Calls Try.prog 95 #[.pointer (some ⟨gt, 0, none⟩), .int .i64 n] (W.setCell ⟨bn, n * 7 + 2, none⟩ (.int .i64 (((at' T n).links - 1 : Nat) : Nat))) (fun e w' => RetT B fp2 (W.setCell ⟨bn, n * 7 + 2, none⟩ (.int .i64 (((at' T n).links - 1 : Nat) : Nat))) gt (dropT T dir key n) (.returned (.tuple #[])) e w') := by
        intro fp1 W t1
        obtain ⟨bn, cap, c0, h1, h2, ⟨-, -, n2, -, -⟩, fz, -, nl, -⟩ := t1.num (i := n) (by rw [hDl]; exact hnl)
        obtain ⟨fp2, t2, s2⟩ := nl ((at' T n).links - 1)
        rw [hDl] at c0 h1
        rw [hD.1] at n2
        refine ⟨bn, cap, c0, h1, h2, n2, fz _, fp2, s2, ?_⟩
        have := reap_c B gt n fp2 _ _ t2 (by rw [List.length_set, hDl]; exact hnl)
        rw [show dropT T dir key n = reapF ((detT T dir key).set n { at' (detT T dir key) n with links := (at' T n).links - 1 }) n from by unfold dropT decL; rw [hD.1]]
        exact this
      have HTL := Hid.mk TAIL
      clear TAIL h3 x3 RD TW2 hD hDl hfew hnx hnode
      by_cases hk : (at' T n).kind = 2
      · rw [if_neg (by simpa using hk)] at hR
        have q1 : (((at' T n).kind : Int) != 2) = false := by simp [hk]
        clear hk
        by_cases hz : (at' T n).edges = []
        · rw [if_neg (by simpa using hz)] at hR
          have HF := Hid.mk hR
          have hz0 : (at' T n).edges.length = 0 := by rw [hz]; rfl
          rw [hz0] at m6
          clear hR hz hz0
          go_wp2_with fail
          refine DC.mono ?_
          rintro e w3 ⟨fp1, rfl, t1, s1⟩
          obtain ⟨bn3, cap3, d0, g1, g2, d2, f2, fp2, s2, RC⟩ := HTL.out fp1 w3 t1
          have e5 : IntKind.i64.wrap (((at' T n).links : Int) - 1) = (((at' T n).links - 1 : Nat) : Int) := by rw [IntKind.wrap_i64] <;> omega
          have HS := Hid.mk (s1.trans s2)
          generalize (at' T n).links - 1 = lk1 at *
          generalize (at' T n).links = lk0 at *
          generalize dropT T dir key n = T2 at *
          clear c0 n6 x4 m0 m6 t1 s1 s2 HTL DC
          go_wp2_with fail
          refine RC.mono ?_
          rintro e w4 ⟨fp3, rfl, t3, s3⟩
          go_wp2_with fail
          go_ret
          rw [HF.out]
          exact ⟨fp3, rfl, t3, (Stp.keep k1).trans (HS.out.trans s3)⟩
        · rw [if_pos hz] at hR
          have HF := Hid.mk hR
          have hz0 : ((at' T n).edges.length : Int) > 0 := by
            have : (at' T n).edges.length ≠ 0 := fun e => hz (List.eq_nil_of_length_eq_zero e)
            omega
          clear hR hz
          go_wp2_with fail
          go_ret
          rw [HF.out]
          exact ⟨fp, rfl, HTW.out.keep k1, Stp.keep k1⟩
      · rw [if_pos hk] at hR
        have HF := Hid.mk hR
        have q1 : (((at' T n).kind : Int) != 2) = true := by simp; omega
        clear hR hk
        go_wp2_with fail
        go_ret
        rw [HF.out]
        exact ⟨fp, rfl, HTW.out.keep k1, Stp.keep k1⟩
  · rw [if_pos her] at hR
    have HF := Hid.mk hR
    have q1 : (er != 0) = true := by simp [her]
    clear hR
    go_enter Try.func68, Try.ntmps68
    go_wp2_with fail
    refine WP.mono ?_
    rintro e w1 ⟨rfl, k1⟩
    go_wp2_with fail
    go_ret
    rw [HF.out]
    exact ⟨fp, rfl, HTW.out.keep k1, Stp.keep k1⟩
end Go.Proofs.Qxb6500767a
