/- mutatem: Link. -/
import Derived.Test.Qxb6500767aTn
namespace Go.Proofs.Qxb6500767a
open Go.RowKit Go.Qm
set_option linter.unusedVariables false
set_option linter.unusedSimpArgs false
attribute [local go_sem ↓] Go.wp_at_zero Go.wp_at_succ
theorem parF_lt' {T : List Nd} (ok : TOK T) (path : List UInt8) : (parF T path).1 < T.length := by
  unfold parF
  have := ok.root
  split; exact this
  split; exact this
  split; exact this
  split; exact this
  split; exact this
  exact walkF_lt ok _ _ _ _ this
theorem parF_key' {T : List Nd} (path : List UInt8) : (parF T path).2.2.1.length ≤ 4000 := by
  unfold parF
  split; exact Nat.zero_le _
  split; exact Nat.zero_le _
  split; exact Nat.zero_le _
  split; exact Nat.zero_le _
  split; exact Nat.zero_le _
  rename_i hk
  exact (keyR_ok (by simpa using hk)).2.1
/-- What the calls that change names lean on. -/
structure TLim (T : List Nd) : Prop where
  ok : TOK T
  len : T.length ≤ 90000
  keys : ∀ i, i < T.length → ∀ x ∈ (at' T i).edges, x.key.length ≤ 1000000
  links : ∀ i, i < T.length → (at' T i).links ≤ 1000000
  opens : ∀ i, i < T.length → (at' T i).opens ≤ 1000000
  held : ∀ i, i < T.length → ∀ x ∈ (at' T i).edges, 1 ≤ (at' T x.node).links
def attT (T : List Nd) (d : Nat) (key nm : List UInt8) (n : Nat) : List Nd := T.set d { at' T d with edges := insE ⟨key, nm, n⟩ (at' T d).edges }
def linkT (T : List Nd) (old path : List UInt8) : List Nd × Int :=
  if (pathF T old false).2 ≠ 0 then (T, (pathF T old false).2)
  else if (at' T (pathF T old false).1).kind = 2 then (T, 12)
  else if (parF T path).2.2.2 ≠ 0 then (T, (parF T path).2.2.2)
  else if (findE (parF T path).2.2.1 (at' T (parF T path).1).edges).isSome = true then (T, 10)
  else (attT (T.set (pathF T old false).1 { at' T (pathF T old false).1 with links := (at' T (pathF T old false).1).links + 1 }) (parF T path).1 (parF T path).2.2.1 (parF T path).2.1 (pathF T old false).1, 0)
set_option maxRecDepth 3000 in
set_option maxHeartbeats 4000000 in
theorem link_c (B gt : Nat) (old path : List UInt8) (fp : Nat → Prop) (T : List Nd) (w : World) (h : TreeW B fp w gt T) (lim : TLim T) (ho : old.length ≤ 100000) (hl : path.length ≤ 100000) :
    Calls Try.prog 70 #[.pointer (some ⟨gt, 0, none⟩), str old, str path] w fun e w' => RetT B fp w gt (linkT T old path).1 (.returned (.int .i64 (linkT T old path).2)) e w' := by
  obtain ⟨R, hR⟩ : ∃ R, R = linkT T old path := ⟨_, rfl⟩
  rw [← hR]
  have ok := lim.ok
  have HTW := Hid.mk h
  have HL := Hid.mk lim
  have hn1 := pathF_lt ok old false
  have hp1 := parF_lt' ok path
  have hpk := parF_key' (T := T) path
  have WK := walk_c gt T false old w h.tr ok ho
  have WP := fun W (hk : Keep w W) => walkParent_c gt T path W (h.tr.keep hk) ok hl
  have FC := fun W (hk : Keep w W) => find_c gt (parF T path).1 T (parF T path).2.2.1 W (h.tr.keep hk) hp1 (ok.few _ hp1)
  have HR1 : Hid ((pathF T old false).2 ≠ 0 → R = (T, (pathF T old false).2)) := Hid.mk (fun a => by rw [hR, linkT, if_pos a])
  have HR2 : Hid ((pathF T old false).2 = 0 → (at' T (pathF T old false).1).kind = 2 → R = (T, 12)) := Hid.mk (fun a b => by rw [hR, linkT, if_neg (by simpa using a), if_pos b])
  have HR3 : Hid ((pathF T old false).2 = 0 → ¬ (at' T (pathF T old false).1).kind = 2 → (parF T path).2.2.2 ≠ 0 → R = (T, (parF T path).2.2.2)) := Hid.mk (fun a b c => by rw [hR, linkT, if_neg (by simpa using a), if_neg b, if_pos c])
  have HR4 : Hid ((pathF T old false).2 = 0 → ¬ (at' T (pathF T old false).1).kind = 2 → (parF T path).2.2.2 = 0 → (findE (parF T path).2.2.1 (at' T (parF T path).1).edges).isSome = true → R = (T, 10)) := Hid.mk (fun a b c d => by rw [hR, linkT, if_neg (by simpa using a), if_neg b, if_neg (by simpa using c), if_pos d])
  have HR5 : Hid ((pathF T old false).2 = 0 → ¬ (at' T (pathF T old false).1).kind = 2 → (parF T path).2.2.2 = 0 → ¬ (findE (parF T path).2.2.1 (at' T (parF T path).1).edges).isSome = true → R = (attT (T.set (pathF T old false).1 { at' T (pathF T old false).1 with links := (at' T (pathF T old false).1).links + 1 }) (parF T path).1 (parF T path).2.2.1 (parF T path).2.1 (pathF T old false).1, 0)) := Hid.mk (fun a b c d => by rw [hR, linkT, if_neg (by simpa using a), if_neg b, if_neg (by simpa using c), if_neg d])
  clear hR
  unfold parV at WP
  obtain ⟨⟨n, e1⟩, hpa⟩ : ∃ p, p = pathF T old false := ⟨_, rfl⟩
  rw [← hpa] at hn1 WK HR1 HR2 HR3 HR4 HR5
  obtain ⟨⟨dir, nm, key, er⟩, hpf⟩ : ∃ p, p = parF T path := ⟨_, rfl⟩
  rw [← hpf] at hp1 hpk WP FC HR3 HR4 HR5
  simp only at hn1 WK hp1 hpk WP FC HR1 HR2 HR3 HR4 HR5
  clear hpf hpa lim ok
  go_enter Try.func70, Try.ntmps70
  go_wp2_with fail
  refine WK.mono ?_
  rintro e w1 ⟨rfl, k1⟩
  by_cases he1 : e1 = 0
  · subst he1
    obtain ⟨bn, cap, c0, h1, h2, ⟨n0, -, n2, -, -⟩, fz, -⟩ := (HTW.out.keep k1).num hn1
    have i1 : (n : Int) < T.length := by omega
    have i0 : (0 : Int) ≤ n := by omega
    unfold maxLen at h2
    by_cases hk : (at' T n).kind = 2
    · have HF := Hid.mk (HR2.out rfl hk)
      rw [hk] at n0
      clear HR1 HR2 HR3 HR4 HR5 hk
      go_wp2_with fail
      go_ret
      rw [HF.out]
      exact ⟨fp, rfl, HTW.out.keep k1, Stp.keep k1⟩
    · have q1 : (((at' T n).kind : Int) == 2) = false := by simp; omega
      have HR3' := Hid.mk (HR3.out rfl hk)
      have HR4' := Hid.mk (HR4.out rfl hk)
      have HR5' := Hid.mk (HR5.out rfl hk)
      generalize hkk : (at' T n).kind = kd at n0 q1
      clear HR1 HR2 HR3 HR4 HR5 hk hkk
      go_wp2_with fail
      refine (WP _ k1).mono ?_
      rintro e w2 ⟨rfl, k2⟩
      have K2 := k1.trans k2
      by_cases her : er = 0
      · subst her
        clear c0 n0 n2 fz
        go_wp2_with fail
        refine (FC _ K2).mono ?_
        rintro e w3 ⟨rfl, rfl⟩
        cases hfe : findE key (at' T dir).edges with
        | some j =>
          have HF := Hid.mk (HR4'.out (by first | rfl | trivial) (by rw [hfe]; rfl))
          unfold optI
          clear HR3' HR4' HR5' hfe
          go_wp2_with fail
          go_ret
          rw [HF.out]
          exact ⟨fp, rfl, HTW.out.keep K2, Stp.keep K2⟩
        | none =>
          have HF := Hid.mk (HR5'.out (by first | rfl | trivial) (by rw [hfe]; simp))
          unfold optI
          clear HR3' HR4' HR5' hfe
          obtain ⟨bn, cap, c0, h1, h2, ⟨-, -, n2, -, -⟩, fz, -, nl, -⟩ := (HTW.out.keep K2).num hn1
          obtain ⟨fp1, t1, s1⟩ := nl ((at' T n).links + 1)
          have hll := HL.out.links n hn1
          have e5 : IntKind.i64.wrap (((at' T n).links : Int) + 1) = (((at' T n).links + 1 : Nat) : Int) := by rw [IntKind.wrap_i64] <;> omega
          have hf := fz (n * 7 + 2)
          obtain ⟨T1, hT1⟩ : ∃ T1, T1 = T.set n { at' T n with links := (at' T n).links + 1 } := ⟨_, rfl⟩
          have hed : ∀ i, (at' T1 i).edges = (at' T i).edges := fun i => by
            rw [hT1]
            by_cases e : i = n
            · subst e; rw [at_set hn1]
            · rw [at_set_ne (Ne.symm e)]
          have hlen1 : T1.length = T.length := by rw [hT1, List.length_set]
          rw [← hT1] at t1 HF
          have AC := attach_c B gt dir key nm n fp1 T1 _ t1 (by rw [hlen1]; exact hp1) (by rw [hed]; exact HL.out.ok.few _ hp1) (by omega) (by rw [hed]; exact HL.out.keys _ hp1)
          rw [show T1.set dir { at' T1 dir with edges := insE ⟨key, nm, n⟩ (at' T1 dir).edges } = attT T1 dir key nm n from rfl] at AC
          have HS1 := Hid.mk s1
          generalize (at' T n).links + 1 = lk1 at *
          generalize (at' T n).links = lk0 at *
          unfold maxLen at h2
          clear nl fz t1 s1 hed hT1 hlen1
          generalize attT T1 dir key nm n = T2 at *
          go_wp2_with fail
          refine AC.mono ?_
          rintro e w4 ⟨fp2, rfl, t2, s2⟩
          go_wp2_with fail
          go_ret
          rw [HF.out]
          exact ⟨fp2, rfl, t2, (Stp.keep K2).trans (HS1.out.trans s2)⟩
      · have HF := Hid.mk (HR3'.out her)
        have q2 : (er != 0) = true := by simp [her]
        clear HR3' HR4' HR5' c0 n0 n2 fz
        go_wp2_with fail
        go_ret
        rw [HF.out]
        exact ⟨fp, rfl, HTW.out.keep K2, Stp.keep K2⟩
  · have HF := Hid.mk (HR1.out he1)
    have q1 : (e1 != 0) = true := by simp [he1]
    clear HR1 HR2 HR3 HR4 HR5
    go_wp2_with fail
    go_ret
    rw [HF.out]
    exact ⟨fp, rfl, HTW.out.keep k1, Stp.keep k1⟩
end Go.Proofs.Qxb6500767a
