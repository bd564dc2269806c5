/- unionvfsm: stat. -/
import Derived.Test.Qxb6500767aNh
namespace Go.Proofs.Qxb6500767a
open Go.RowKit Go.Qm
set_option linter.unusedVariables false
set_option linter.unusedSimpArgs false
attribute [local go_sem ↓] Go.wp_at_zero Go.wp_at_succ
theorem statS_c (gt i : Nat) (T : List Nd) (w : World) (h : TR w gt T) (hi : i < T.length) :
    Calls Try.prog 59 #[.pointer (some ⟨gt, 0, none⟩), .int .i64 i] w fun e w' => e = .returned (.agg #[.int .i64 ((statF T i).ino : Nat), .int .i64 ((statF T i).kind : Nat), .int .i64 (statF T i).mode, .int .i64 ((statF T i).links : Nat), .int .i64 ((statF T i).size : Nat)]) ∧ Keep w w' := statOf_c gt i T w h hi
set_option maxRecDepth 4000 in
set_option maxHeartbeats 4000000 in
theorem mStat_c {B gm gt k : Nat} {fp : Nat → Prop} {w : World} {s : Stt} {O : List Nat} {ov : Value} (h : MW B fp w gm gt s O ov) (si : SI k s.u s.hs s.T) (hk : k ≤ 70000) (path : List UInt8) (hp : path.length ≤ 100000) (fl : Bool) :
    Calls Try.prog 62 #[.pointer (some ⟨gm, 0, none⟩), str path, .bool fl] w fun e w' => MP B fp w gm gt ov ⟨(stpF s.T path fl).2, 0, [], (stpF s.T path fl).1, []⟩ s e w' := by
  have HH := Hid.mk h
  obtain ⟨R, hR⟩ : ∃ R, R = stpF s.T path fl := ⟨_, rfl⟩
  rw [← hR]
  unfold stpF at hR
  have lim := si.lim (by omega)
  have HWC := Hid.mk (fun W (kk : Keep w W) => walk_c gt s.T fl path W (h.keep kk).tree.tr lim.ok hp)
  have hi := si.t.lt (path_live si.t path fl).1
  have HSC := Hid.mk (fun W (kk : Keep w W) => statS_c gt (pathF s.T path fl).1 s.T W (h.keep kk).tree.tr hi)
  generalize pathF s.T path fl = PF at *
  obtain ⟨nd, er⟩ := PF
  simp only at hR HWC HSC hi
  clear lim si
  go_enter Try.func62, Try.ntmps62
  go_upto_region 1 with fail
  obtain ⟨w1, hw1⟩ : ∃ w1, w1 = w.alloc (.cells #[.int .i64 0, .int .i64 0, str [], .int .i64 0, .int .i64 0, .int .i64 0, .int .i64 0, .int .i64 0, .slice none 0 0] 34) := ⟨_, rfl⟩
  rw [← hw1]
  have K1 : Keep w w1 := by rw [hw1]; exact (Keep.refl w).alloc _
  have AB : Arr w1 w.heap.size 34 zeroC := by rw [hw1]; exact Arr.new w 34 zeroC
  obtain ⟨gB, hgB⟩ : ∃ g, g = w.heap.size := ⟨_, rfl⟩
  rw [← hgB] at AB ⊢
  have HGB : Hid (w.heap.size ≤ gB ∧ gB < w1.heap.size) := Hid.mk ⟨by omega, AB.lt⟩
  have HK1 := Hid.mk K1
  have HAB := Hid.mk AB
  obtain ⟨x0, -⟩ := (h.keep K1).cells
  clear hw1 h AB hgB
  go_wp2_with fail
  refine (HWC.out _ K1).mono ?_
  rintro e y1 ⟨rfl, q1⟩
  have HQ1 := Hid.mk q1
  replace x0 := q1.cell x0
  by_cases he : er = 0
  · subst he
    rw [if_neg (by simp)] at hR
    have HV := Hid.mk hR
    clear hR q1
    go_wp2_with fail
    refine (HSC.out _ (K1.trans HQ1.out)).mono ?_
    rintro e y2 ⟨rfl, q2⟩
    generalize statF s.T nd = S0 at *
    obtain ⟨sI, sK, sM, sL, sS⟩ := S0
    simp only
    obtain ⟨b0, b1, b2, b3, b4, b5, b6, b7, b8, z0, z1, z2, z3, z4, z5, z6, z7, z8⟩ := z9 (HAB.out.keep (HQ1.out.trans q2))
    have HE := Hid.mk (MP.fin (a := ⟨0, 0, [], ⟨sI, sK, sM, sL, sS⟩, []⟩) (v := (.slice none 0 0)) HH.out HK1.out (HH.out.keep (HK1.out.trans (HQ1.out.trans q2))) (Stp.keep (HQ1.out.trans q2)) HGB.out (OwnS.nil _ _ _ _ _) (fr9 (.int .i64 0) (.int .i64 0) (str []) (.int .i64 (sI : Nat)) (.int .i64 (sK : Nat)) (.int .i64 sM) (.int .i64 (sL : Nat)) (.int .i64 (sS : Nat)) (.slice none 0 0)))
    have HAZ := Hid.mk (arr9 (HAB.out.keep (HQ1.out.trans q2)) (.int .i64 0) (.int .i64 0) (str []) (.int .i64 (sI : Nat)) (.int .i64 (sK : Nat)) (.int .i64 sM) (.int .i64 (sL : Nat)) (.int .i64 (sS : Nat)) (.slice none 0 0))
    clear q2
    go_wp2_with fail
    refine bodyPost_ret (v := .agg (ansC ⟨0, 0, [], ⟨sI, sK, sM, sL, sS⟩, []⟩ (.slice none 0 0)).toArray) (results_cell_row1 rfl _ _ gB 34 _ (0, 0) _ rfl HAZ.out Try.underlying34 rfl s34) rfl ?_
    rw [HV.out]
    exact HE.out
  · rw [if_pos he] at hR
    have HV := Hid.mk hR
    have n1 : (er != 0) = true := by simpa using he
    clear hR q1 he
    go_wp2_with fail
    refine (refuse_c er _).mono ?_
    rintro e y2 ⟨rfl, q2⟩
    obtain ⟨b0, b1, b2, b3, b4, b5, b6, b7, b8, z0, z1, z2, z3, z4, z5, z6, z7, z8⟩ := z9 (HAB.out.keep (HQ1.out.trans q2))
    have HE := Hid.mk (MP.fin (a := ⟨er, 0, [], sta0, []⟩) (v := (.slice none 0 0)) HH.out HK1.out (HH.out.keep (HK1.out.trans (HQ1.out.trans q2))) (Stp.keep (HQ1.out.trans q2)) HGB.out (OwnS.nil _ _ _ _ _) (fr9 (.int .i64 er) (.int .i64 0) (str []) (.int .i64 0) (.int .i64 0) (.int .i64 0) (.int .i64 0) (.int .i64 0) (.slice none 0 0)))
    have HAZ := Hid.mk (arr9 (HAB.out.keep (HQ1.out.trans q2)) (.int .i64 er) (.int .i64 0) (str []) (.int .i64 0) (.int .i64 0) (.int .i64 0) (.int .i64 0) (.int .i64 0) (.slice none 0 0))
    clear q2
    go_wp2_with fail
    refine bodyPost_ret (v := .agg (ansC ⟨er, 0, [], sta0, []⟩ (.slice none 0 0)).toArray) (results_cell_row1 rfl _ _ gB 34 _ (0, 0) _ rfl HAZ.out Try.underlying34 rfl s34) rfl ?_
    rw [HV.out]
    exact HE.out
end Go.Proofs.Qxb6500767a
